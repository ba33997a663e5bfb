/- Functions as the interpreter takes them, and that the program's are so. -/
import Derived.Test.YtaepdefnomcllaaAxRng
import Derived.Test.YtaepdefnomcllaaProg
set_option linter.unusedVariables false
set_option maxRecDepth 100000
namespace Go.Proofs.Ytaepdefnomcllaa
open Go Go.Ax
/-! #### skylightlaw31.LayoutTells -/
def o3_1 : List AOper := [⟨some 4, .box (.tmp 0), none⟩,
  ⟨some 8, .mv (.const (.bool false)), none⟩]
def o3_3 : List AOper := [⟨some 13, .load true [.int .i64, .int .i64] (.tmp 4), none⟩,
  ⟨some 14, .call true (.func 11) [.tmp 13] [(true, [.int .i64, .int .i64])] true, none⟩,
  ⟨some 9, .alloc [.int .i64 0, .int .i64 0], none⟩,
  ⟨none, .store 2 (.tmp 9) (.tmp 14), none⟩]
def o3_6 : List AOper := [⟨some 15, .load true [.int .i64, .int .i64] (.tmp 4), none⟩,
  ⟨some 16, .call true (.func 12) [.tmp 15] [(false, [.bool])] true, none⟩,
  ⟨some 17, .mv (.tmp 16), none⟩,
  ⟨some 18, .fieldAddr 0 (.tmp 4), some (17, true)⟩,
  ⟨some 19, .load false [.int .i64] (.tmp 18), some (17, true)⟩,
  ⟨some 20, .bin .gtr (.tmp 19) (.const (.int .i64 40)), some (17, true)⟩,
  ⟨some 21, .mv (.tmp 20), some (17, true)⟩,
  ⟨some 22, .fieldAddr 1 (.tmp 4), some (21, false)⟩,
  ⟨some 23, .load false [.int .i64] (.tmp 22), some (21, false)⟩,
  ⟨some 24, .bin .gtr (.tmp 23) (.const (.int .i64 10)), some (21, false)⟩,
  ⟨some 25, .pick (.tmp 21) (.const (.bool true)) (.tmp 24), some (17, true)⟩,
  ⟨some 26, .pick (.tmp 17) (.tmp 25) (.const (.bool false)), none⟩]
def o3_9 : List AOper := [⟨some 27, .call true (.func 13) [] [(false, [.bool])] true, none⟩,
  ⟨some 8, .mv (.tmp 27), none⟩]
def o3_13 : List AOper := [⟨some 28, .load true [.int .i64, .int .i64] (.tmp 4), none⟩,
  ⟨some 29, .call false (.func 14) [.tmp 28] [(false, [.slice])] true, none⟩,
  ⟨some 10, .mv (.tmp 29), none⟩]
def o3_15 : List AOper := [⟨some 30, .build [.int .i64 0, .int .i64 0, .int .i64 0] [], none⟩,
  ⟨some 11, .alloc [.int .i64 0, .int .i64 0, .int .i64 0], none⟩,
  ⟨none, .store 3 (.tmp 11) (.tmp 30), none⟩]
def o3_18 : List AOper := [⟨some 31, .mv (.tmp 3), none⟩,
  ⟨some 32, .bin .geq (.tmp 31) (.const (.int .i64 0)), none⟩,
  ⟨some 33, .mv (.tmp 32), none⟩,
  ⟨some 34, .mv (.tmp 3), some (33, true)⟩,
  ⟨some 35, .mv (.tmp 10), some (33, true)⟩,
  ⟨some 36, .len (.tmp 35), some (33, true)⟩,
  ⟨some 37, .bin .lss (.tmp 34) (.tmp 36), some (33, true)⟩,
  ⟨some 38, .pick (.tmp 33) (.tmp 37) (.const (.bool false)), none⟩]
def o3_20 : List (AOper × Option Nat) := [(⟨some 39, .mv (.tmp 10), none⟩, none),
  (⟨some 40, .mv (.tmp 3), none⟩, none),
  (⟨some 41, .indexAddr 3 (.tmp 39) (.tmp 40), none⟩, none),
  (⟨some 42, .fieldAddr 0 (.tmp 41), none⟩, none),
  (⟨some 43, .load false [.int .i64] (.tmp 42), none⟩, none),
  (⟨some 44, .mv (.tmp 10), none⟩, none),
  (⟨some 45, .mv (.tmp 3), none⟩, none),
  (⟨some 46, .indexAddr 3 (.tmp 44) (.tmp 45), none⟩, none),
  (⟨some 47, .fieldAddr 1 (.tmp 46), none⟩, none),
  (⟨some 48, .load false [.int .i64] (.tmp 47), none⟩, none),
  (⟨some 49, .mv (.tmp 10), none⟩, none),
  (⟨some 50, .mv (.tmp 3), none⟩, none),
  (⟨some 51, .indexAddr 3 (.tmp 49) (.tmp 50), none⟩, none),
  (⟨some 52, .fieldAddr 2 (.tmp 51), none⟩, none),
  (⟨some 53, .load false [.int .i64] (.tmp 52), none⟩, none),
  (⟨some 54, .build [.int .i64 0, .int .i64 0, .int .i64 0] [(0, 1, .tmp 43), (1, 1, .tmp 48), (2, 1, .tmp 53)], none⟩, none),
  (⟨none, .store 3 (.tmp 11) (.tmp 54), none⟩, none)]
def o3_23 : List AOper := [⟨some 12, .mv (.const (.int .i64 (-1))), none⟩]
def o3_26 : List AOper := [⟨some 55, .load true [.int .i64, .int .i64] (.tmp 4), none⟩,
  ⟨some 56, .call true (.func 12) [.tmp 55] [(false, [.bool])] true, none⟩,
  ⟨some 57, .mv (.tmp 56), none⟩,
  ⟨some 58, .mv (.tmp 1), some (57, true)⟩,
  ⟨some 59, .bin .geq (.tmp 58) (.const (.int .i64 0)), some (57, true)⟩,
  ⟨some 60, .pick (.tmp 57) (.tmp 59) (.const (.bool false)), none⟩,
  ⟨some 61, .mv (.tmp 60), none⟩,
  ⟨some 62, .mv (.tmp 1), some (61, true)⟩,
  ⟨some 63, .fieldAddr 0 (.tmp 4), some (61, true)⟩,
  ⟨some 64, .load false [.int .i64] (.tmp 63), some (61, true)⟩,
  ⟨some 65, .bin .lss (.tmp 62) (.tmp 64), some (61, true)⟩,
  ⟨some 66, .pick (.tmp 61) (.tmp 65) (.const (.bool false)), none⟩]
def o3_28 : List AOper := [⟨some 67, .mv (.tmp 1), none⟩,
  ⟨some 68, .fieldAddr 1 (.tmp 4), none⟩,
  ⟨some 69, .load false [.int .i64] (.tmp 68), none⟩,
  ⟨some 70, .bin .rem (.tmp 67) (.tmp 69), none⟩,
  ⟨some 12, .mv (.tmp 70), none⟩]
def o3_31 : List (AOper × Option Nat) := [(⟨some 71, .load true [.int .i64, .int .i64] (.tmp 9), none⟩, none),
  (⟨some 72, .call true (.func 15) [.tmp 71] [(false, [.bool])] true, none⟩, none),
  (⟨some 73, .load true [.int .i64, .int .i64] (.tmp 4), none⟩, none),
  (⟨some 74, .call true (.func 12) [.tmp 73] [(false, [.bool])] true, none⟩, none),
  (⟨some 75, .binB false (.tmp 72) (.tmp 74), none⟩, none),
  (⟨some 76, .mv (.tmp 75), none⟩, none),
  (⟨some 77, .load true [.int .i64, .int .i64] (.tmp 9), some (76, true)⟩, none),
  (⟨some 78, .call true (.func 16) [.tmp 77] [(false, [.int .i64])] true, some (76, true)⟩, none),
  (⟨some 79, .mv (.tmp 10), some (76, true)⟩, none),
  (⟨some 80, .len (.tmp 79), some (76, true)⟩, none),
  (⟨some 81, .bin .eql (.tmp 78) (.tmp 80), some (76, true)⟩, none),
  (⟨some 82, .pick (.tmp 76) (.tmp 81) (.const (.bool false)), none⟩, none),
  (⟨some 83, .mv (.tmp 82), none⟩, none),
  (⟨some 84, .load true [.int .i64, .int .i64] (.tmp 9), some (83, true)⟩, none),
  (⟨some 85, .mv (.tmp 1), some (83, true)⟩, none),
  (⟨some 86, .call true (.func 17) [.tmp 84, .tmp 85] [(false, [.int .i64])] true, some (83, true)⟩, none),
  (⟨some 87, .load true [.int .i64, .int .i64] (.tmp 4), some (83, true)⟩, none),
  (⟨some 88, .mv (.tmp 1), some (83, true)⟩, none),
  (⟨some 89, .build [.int .i64 0, .int .i64 0, .int .i64 0] [(0, 1, .const (.int .i64 2)), (1, 1, .tmp 88)], some (83, true)⟩, none),
  (⟨some 90, .call true (.func 18) [.tmp 87, .tmp 89] [(false, [.int .i64])] true, some (83, true)⟩, none),
  (⟨some 91, .bin .eql (.tmp 86) (.tmp 90), some (83, true)⟩, none),
  (⟨some 92, .pick (.tmp 83) (.tmp 91) (.const (.bool false)), none⟩, none),
  (⟨some 93, .mv (.tmp 92), none⟩, none),
  (⟨some 94, .load true [.int .i64, .int .i64] (.tmp 9), some (93, true)⟩, none),
  (⟨some 95, .mv (.tmp 1), some (93, true)⟩, none),
  (⟨some 96, .call true (.func 19) [.tmp 94, .tmp 95] [(false, [.int .i64])] true, some (93, true)⟩, none),
  (⟨some 97, .load true [.int .i64, .int .i64] (.tmp 4), some (93, true)⟩, none),
  (⟨some 98, .mv (.tmp 1), some (93, true)⟩, none),
  (⟨some 99, .build [.int .i64 0, .int .i64 0, .int .i64 0] [(0, 1, .const (.int .i64 3)), (1, 1, .tmp 98)], some (93, true)⟩, none),
  (⟨some 100, .call true (.func 18) [.tmp 97, .tmp 99] [(false, [.int .i64])] true, some (93, true)⟩, none),
  (⟨some 101, .bin .eql (.tmp 96) (.tmp 100), some (93, true)⟩, none),
  (⟨some 102, .pick (.tmp 93) (.tmp 101) (.const (.bool false)), none⟩, none),
  (⟨some 103, .mv (.tmp 102), none⟩, none),
  (⟨some 104, .load true [.int .i64, .int .i64] (.tmp 9), some (103, true)⟩, none),
  (⟨some 105, .mv (.tmp 1), some (103, true)⟩, none),
  (⟨some 106, .mv (.tmp 2), some (103, true)⟩, none),
  (⟨some 107, .call true (.func 20) [.tmp 104, .tmp 105, .tmp 106] [(false, [.int .i64])] true, some (103, true)⟩, none),
  (⟨some 108, .load true [.int .i64, .int .i64] (.tmp 4), some (103, true)⟩, none),
  (⟨some 109, .mv (.tmp 1), some (103, true)⟩, none),
  (⟨some 110, .mv (.tmp 2), some (103, true)⟩, none),
  (⟨some 111, .build [.int .i64 0, .int .i64 0, .int .i64 0] [(0, 1, .const (.int .i64 4)), (1, 1, .tmp 109), (2, 1, .tmp 110)], some (103, true)⟩, none),
  (⟨some 112, .call true (.func 18) [.tmp 108, .tmp 111] [(false, [.int .i64])] true, some (103, true)⟩, none),
  (⟨some 113, .bin .eql (.tmp 107) (.tmp 112), some (103, true)⟩, none),
  (⟨some 114, .pick (.tmp 103) (.tmp 113) (.const (.bool false)), none⟩, none),
  (⟨some 115, .mv (.tmp 114), none⟩, none),
  (⟨some 116, .load true [.int .i64, .int .i64] (.tmp 9), some (115, true)⟩, none),
  (⟨some 117, .mv (.tmp 1), some (115, true)⟩, none),
  (⟨some 118, .call true (.func 21) [.tmp 116, .tmp 117] [(false, [.int .i64])] true, some (115, true)⟩, none),
  (⟨some 119, .mv (.tmp 12), some (115, true)⟩, none),
  (⟨some 120, .bin .eql (.tmp 118) (.tmp 119), some (115, true)⟩, none),
  (⟨some 121, .pick (.tmp 115) (.tmp 120) (.const (.bool false)), none⟩, none),
  (⟨some 122, .mv (.tmp 121), none⟩, none),
  (⟨some 123, .load true [.int .i64, .int .i64] (.tmp 9), some (122, true)⟩, none),
  (⟨some 124, .mv (.tmp 3), some (122, true)⟩, none),
  (⟨some 125, .call true (.func 22) [.tmp 123, .tmp 124] [(true, [.int .i64, .int .i64, .int .i64])] true, some (122, true)⟩, none),
  (⟨some 126, .load true [.int .i64, .int .i64, .int .i64] (.tmp 11), some (122, true)⟩, none),
  (⟨some 127, .eqAgg [.int .i64, .int .i64, .int .i64] false (.tmp 125) (.tmp 126), some (122, true)⟩, none),
  (⟨some 128, .pick (.tmp 122) (.tmp 127) (.const (.bool false)), none⟩, none),
  (⟨some 129, .mv (.tmp 128), none⟩, none),
  (⟨some 130, .call true (.func 13) [] [(false, [.bool])] true, some (129, true)⟩, none),
  (⟨some 131, .pick (.tmp 129) (.tmp 130) (.const (.bool false)), none⟩, none),
  (⟨some 8, .mv (.tmp 131), none⟩, none)]
def c3_30 : ACode := .seq (.draw [] 0 o3_31 []) (.ret)
def c3_22 : ACode := .seq (.ops o3_23) (.seq (.seq (.ops o3_26) (.cond (.tmp 66) (.ops o3_28) (.skip))) (.clear [0, 5, 6, 7, 8, 13, 14, 15, 16, 17, 18, 19, 20, 21, 22, 23, 24, 25, 26, 27, 28, 29, 30, 31, 32, 33, 34, 35, 36, 37, 38, 39, 40, 41, 42, 43, 44, 45, 46, 47, 48, 49, 50, 51, 52, 53, 54, 55, 56, 57, 58, 59, 60, 61, 62, 63, 64, 65, 66, 67, 68, 69, 70, 71, 72, 73, 74, 75, 76, 77, 78, 79, 80, 81, 82, 83, 84, 85, 86, 87, 88, 89, 90, 91, 92, 93, 94, 95, 96, 97, 98, 99, 100, 101, 102, 103, 104, 105, 106, 107, 108, 109, 110, 111, 112, 113, 114, 115, 116, 117, 118, 119, 120, 121, 122, 123, 124, 125, 126, 127, 128, 129, 130, 131] c3_30))
def c3_0 : ACode := .seq (.ops o3_1) (.seq (.ops o3_3) (.seq (.seq (.ops o3_6) (.cond (.tmp 26) (.seq (.ops o3_9) (.ret)) (.skip))) (.seq (.ops o3_13) (.seq (.ops o3_15) (.seq (.seq (.ops o3_18) (.cond (.tmp 38) (.draw [] 0 o3_20 []) (.skip))) (.clear [0, 5, 6, 7, 8, 12, 13, 14, 15, 16, 17, 18, 19, 20, 21, 22, 23, 24, 25, 26, 27, 28, 29, 30, 31, 32, 33, 34, 35, 36, 37, 38, 39, 40, 41, 42, 43, 44, 45, 46, 47, 48, 49, 50, 51, 52, 53, 54, 55, 56, 57, 58, 59, 60, 61, 62, 63, 64, 65, 66, 67, 68, 69, 70, 71, 72, 73, 74, 75, 76, 77, 78, 79, 80, 81, 82, 83, 84, 85, 86, 87, 88, 89, 90, 91, 92, 93, 94, 95, 96, 97, 98, 99, 100, 101, 102, 103, 104, 105, 106, 107, 108, 109, 110, 111, 112, 113, 114, 115, 116, 117, 118, 119, 120, 121, 122, 123, 124, 125, 126, 127, 128, 129, 130, 131] c3_22))))))
def a3 : AFun := ⟨132, [.tmp 8], c3_0⟩
/-! #### skylightlaw31.LayoutOnce -/
def o4_1 : List AOper := [⟨some 3, .box (.tmp 0), none⟩,
  ⟨some 6, .mv (.const (.bool false)), none⟩]
def o4_4 : List AOper := [⟨some 14, .load true [.int .i64, .int .i64] (.tmp 3), none⟩,
  ⟨some 15, .call true (.func 12) [.tmp 14] [(false, [.bool])] true, none⟩,
  ⟨some 16, .un .not (.tmp 15), none⟩]
def o4_7 : List AOper := [⟨some 17, .call true (.func 13) [] [(false, [.bool])] true, none⟩,
  ⟨some 6, .mv (.tmp 17), none⟩]
def o4_11 : List AOper := [⟨some 18, .load true [.int .i64, .int .i64] (.tmp 3), none⟩,
  ⟨some 19, .call true (.func 11) [.tmp 18] [(true, [.int .i64, .int .i64])] true, none⟩,
  ⟨some 7, .alloc [.int .i64 0, .int .i64 0], none⟩,
  ⟨none, .store 2 (.tmp 7) (.tmp 19), none⟩]
def o4_13 : List AOper := [⟨some 20, .load true [.int .i64, .int .i64] (.tmp 7), none⟩,
  ⟨some 21, .call true (.func 16) [.tmp 20] [(false, [.int .i64])] true, none⟩,
  ⟨some 8, .mv (.tmp 21), none⟩]
def o4_16 : List AOper := [⟨some 22, .mv (.tmp 8), none⟩,
  ⟨some 23, .bin .lss (.tmp 22) (.const (.int .i64 6)), none⟩]
def o4_19 : List AOper := [⟨some 6, .mv (.const (.bool false)), none⟩]
def o4_23 : List AOper := [⟨some 24, .mv (.tmp 1), none⟩,
  ⟨some 25, .conv .i64 (.tmp 24), none⟩,
  ⟨some 26, .mv (.tmp 8), none⟩,
  ⟨some 27, .bin .rem (.tmp 25) (.tmp 26), none⟩,
  ⟨some 9, .mv (.tmp 27), none⟩]
def o4_25 : List AOper := [⟨some 28, .load true [.int .i64, .int .i64] (.tmp 7), none⟩,
  ⟨some 29, .mv (.tmp 9), none⟩,
  ⟨some 30, .call true (.func 22) [.tmp 28, .tmp 29] [(true, [.int .i64, .int .i64, .int .i64])] true, none⟩,
  ⟨some 10, .alloc [.int .i64 0, .int .i64 0, .int .i64 0], none⟩,
  ⟨none, .store 3 (.tmp 10) (.tmp 30), none⟩]
def o4_27 : List AOper := [⟨some 11, .mv (.const (.int .i64 0)), none⟩]
def o4_30 : List AOper := [⟨some 31, .fieldAddr 0 (.tmp 10), none⟩,
  ⟨some 32, .load false [.int .i64] (.tmp 31), none⟩]
def o4_33 : List AOper := [⟨some 34, .bin .eql (.tmp 32) (.const (.int .i64 1)), none⟩,
  ⟨some 33, .mv (.tmp 34), none⟩]
def o4_37 : List AOper := [⟨some 36, .bin .eql (.tmp 32) (.const (.int .i64 2)), none⟩,
  ⟨some 35, .mv (.tmp 36), none⟩]
def o4_39 : List AOper := [⟨some 37, .load true [.int .i64, .int .i64] (.tmp 7), none⟩,
  ⟨some 38, .fieldAddr 1 (.tmp 10), none⟩,
  ⟨some 39, .load false [.int .i64] (.tmp 38), none⟩,
  ⟨some 40, .call true (.func 17) [.tmp 37, .tmp 39] [(false, [.int .i64])] true, none⟩,
  ⟨some 11, .mv (.tmp 40), none⟩]
def o4_41 : List AOper := [⟨some 42, .bin .eql (.tmp 32) (.const (.int .i64 3)), none⟩,
  ⟨some 41, .mv (.tmp 42), none⟩]
def o4_43 : List AOper := [⟨some 43, .load true [.int .i64, .int .i64] (.tmp 7), none⟩,
  ⟨some 44, .fieldAddr 1 (.tmp 10), none⟩,
  ⟨some 45, .load false [.int .i64] (.tmp 44), none⟩,
  ⟨some 46, .call true (.func 19) [.tmp 43, .tmp 45] [(false, [.int .i64])] true, none⟩,
  ⟨some 11, .mv (.tmp 46), none⟩]
def o4_45 : List AOper := [⟨some 48, .bin .eql (.tmp 32) (.const (.int .i64 4)), none⟩,
  ⟨some 47, .mv (.tmp 48), none⟩]
def o4_47 : List AOper := [⟨some 49, .load true [.int .i64, .int .i64] (.tmp 7), none⟩,
  ⟨some 50, .fieldAddr 1 (.tmp 10), none⟩,
  ⟨some 51, .load false [.int .i64] (.tmp 50), none⟩,
  ⟨some 52, .fieldAddr 2 (.tmp 10), none⟩,
  ⟨some 53, .load false [.int .i64] (.tmp 52), none⟩,
  ⟨some 54, .call true (.func 20) [.tmp 49, .tmp 51, .tmp 53] [(false, [.int .i64])] true, none⟩,
  ⟨some 11, .mv (.tmp 54), none⟩]
def o4_49 : List AOper := [⟨some 6, .mv (.const (.bool false)), none⟩]
def o4_52 : List AOper := [⟨some 55, .mv (.tmp 2), none⟩,
  ⟨some 56, .conv .i64 (.tmp 55), none⟩,
  ⟨some 57, .fieldAddr 0 (.tmp 3), none⟩,
  ⟨some 58, .load false [.int .i64] (.tmp 57), none⟩,
  ⟨some 59, .bin .rem (.tmp 56) (.tmp 58), none⟩,
  ⟨some 12, .mv (.tmp 59), none⟩]
def o4_54 : List AOper := [⟨some 60, .load true [.int .i64, .int .i64] (.tmp 7), none⟩,
  ⟨some 61, .mv (.tmp 12), none⟩,
  ⟨some 62, .call true (.func 21) [.tmp 60, .tmp 61] [(false, [.int .i64])] true, none⟩,
  ⟨some 13, .mv (.tmp 62), none⟩]
def o4_56 : List (AOper × Option Nat) := [(⟨some 63, .mv (.tmp 11), none⟩, none),
  (⟨some 64, .mv (.tmp 9), none⟩, none),
  (⟨some 65, .bin .eql (.tmp 63) (.tmp 64), none⟩, none),
  (⟨some 66, .mv (.tmp 65), none⟩, none),
  (⟨some 67, .mv (.tmp 13), some (66, true)⟩, none),
  (⟨some 68, .bin .geq (.tmp 67) (.const (.int .i64 0)), some (66, true)⟩, none),
  (⟨some 69, .pick (.tmp 66) (.tmp 68) (.const (.bool false)), none⟩, none),
  (⟨some 70, .mv (.tmp 69), none⟩, none),
  (⟨some 71, .mv (.tmp 13), some (70, true)⟩, none),
  (⟨some 72, .fieldAddr 1 (.tmp 3), some (70, true)⟩, none),
  (⟨some 73, .load false [.int .i64] (.tmp 72), some (70, true)⟩, none),
  (⟨some 74, .bin .lss (.tmp 71) (.tmp 73), some (70, true)⟩, none),
  (⟨some 75, .pick (.tmp 70) (.tmp 74) (.const (.bool false)), none⟩, none),
  (⟨some 76, .mv (.tmp 75), none⟩, none),
  (⟨some 77, .mv (.tmp 12), some (76, true)⟩, none),
  (⟨some 78, .fieldAddr 1 (.tmp 3), some (76, true)⟩, none),
  (⟨some 79, .load false [.int .i64] (.tmp 78), some (76, true)⟩, none),
  (⟨some 80, .bin .add (.tmp 77) (.tmp 79), some (76, true)⟩, none),
  (⟨some 81, .fieldAddr 0 (.tmp 3), some (76, true)⟩, none),
  (⟨some 82, .load false [.int .i64] (.tmp 81), some (76, true)⟩, none),
  (⟨some 83, .bin .geq (.tmp 80) (.tmp 82), some (76, true)⟩, none),
  (⟨some 84, .mv (.tmp 83), some (76, true)⟩, none),
  (⟨some 85, .load true [.int .i64, .int .i64] (.tmp 7), some (84, false)⟩, none),
  (⟨some 86, .mv (.tmp 12), some (84, false)⟩, none),
  (⟨some 87, .fieldAddr 1 (.tmp 3), some (84, false)⟩, none),
  (⟨some 88, .load false [.int .i64] (.tmp 87), some (84, false)⟩, none),
  (⟨some 89, .bin .add (.tmp 86) (.tmp 88), some (84, false)⟩, none),
  (⟨some 90, .call true (.func 21) [.tmp 85, .tmp 89] [(false, [.int .i64])] true, some (84, false)⟩, none),
  (⟨some 91, .mv (.tmp 13), some (84, false)⟩, none),
  (⟨some 92, .bin .eql (.tmp 90) (.tmp 91), some (84, false)⟩, none),
  (⟨some 93, .pick (.tmp 84) (.const (.bool true)) (.tmp 92), some (76, true)⟩, none),
  (⟨some 94, .pick (.tmp 76) (.tmp 93) (.const (.bool false)), none⟩, none),
  (⟨some 95, .mv (.tmp 94), none⟩, none),
  (⟨some 96, .mv (.tmp 12), some (95, true)⟩, none),
  (⟨some 97, .bin .add (.tmp 96) (.const (.int .i64 1)), some (95, true)⟩, none),
  (⟨some 98, .fieldAddr 0 (.tmp 3), some (95, true)⟩, none),
  (⟨some 99, .load false [.int .i64] (.tmp 98), some (95, true)⟩, none),
  (⟨some 100, .bin .geq (.tmp 97) (.tmp 99), some (95, true)⟩, none),
  (⟨some 101, .mv (.tmp 100), some (95, true)⟩, none),
  (⟨some 102, .fieldAddr 1 (.tmp 3), some (101, false)⟩, none),
  (⟨some 103, .load false [.int .i64] (.tmp 102), some (101, false)⟩, none),
  (⟨some 104, .bin .eql (.tmp 103) (.const (.int .i64 1)), some (101, false)⟩, none),
  (⟨some 105, .pick (.tmp 101) (.const (.bool true)) (.tmp 104), some (95, true)⟩, none),
  (⟨some 106, .mv (.tmp 105), some (95, true)⟩, none),
  (⟨some 107, .load true [.int .i64, .int .i64] (.tmp 7), some (106, false)⟩, none),
  (⟨some 108, .mv (.tmp 12), some (106, false)⟩, none),
  (⟨some 109, .bin .add (.tmp 108) (.const (.int .i64 1)), some (106, false)⟩, none),
  (⟨some 110, .call true (.func 21) [.tmp 107, .tmp 109] [(false, [.int .i64])] true, some (106, false)⟩, none),
  (⟨some 111, .mv (.tmp 13), some (106, false)⟩, none),
  (⟨some 112, .bin .neq (.tmp 110) (.tmp 111), some (106, false)⟩, none),
  (⟨some 113, .pick (.tmp 106) (.const (.bool true)) (.tmp 112), some (95, true)⟩, none),
  (⟨some 114, .pick (.tmp 95) (.tmp 113) (.const (.bool false)), none⟩, none),
  (⟨some 115, .mv (.tmp 114), none⟩, none),
  (⟨some 116, .load true [.int .i64, .int .i64] (.tmp 7), some (115, true)⟩, none),
  (⟨some 117, .load true [.int .i64, .int .i64] (.tmp 7), some (115, true)⟩, none),
  (⟨some 118, .mv (.tmp 12), some (115, true)⟩, none),
  (⟨some 119, .call true (.func 20) [.tmp 117, .tmp 118, .const (.int .i64 2)] [(false, [.int .i64])] true, some (115, true)⟩, none),
  (⟨some 120, .call true (.func 22) [.tmp 116, .tmp 119] [(true, [.int .i64, .int .i64, .int .i64])] true, some (115, true)⟩, none),
  (⟨some 121, .mv (.tmp 12), some (115, true)⟩, none),
  (⟨some 122, .build [.int .i64 0, .int .i64 0, .int .i64 0] [(0, 1, .const (.int .i64 4)), (1, 1, .tmp 121), (2, 1, .const (.int .i64 2))], some (115, true)⟩, none),
  (⟨some 123, .eqAgg [.int .i64, .int .i64, .int .i64] false (.tmp 120) (.tmp 122), some (115, true)⟩, none),
  (⟨some 124, .pick (.tmp 115) (.tmp 123) (.const (.bool false)), none⟩, none),
  (⟨some 125, .mv (.tmp 124), none⟩, none),
  (⟨some 126, .call true (.func 13) [] [(false, [.bool])] true, some (125, true)⟩, none),
  (⟨some 127, .pick (.tmp 125) (.tmp 126) (.const (.bool false)), none⟩, none),
  (⟨some 6, .mv (.tmp 127), none⟩, none)]
def c4_51 : ACode := .seq (.ops o4_52) (.seq (.ops o4_54) (.seq (.draw [] 0 o4_56 []) (.ret)))
def c4_0 : ACode := .seq (.ops o4_1) (.seq (.seq (.ops o4_4) (.cond (.tmp 16) (.seq (.ops o4_7) (.ret)) (.skip))) (.seq (.ops o4_11) (.seq (.ops o4_13) (.seq (.seq (.ops o4_16) (.cond (.tmp 23) (.seq (.ops o4_19) (.ret)) (.skip))) (.seq (.ops o4_23) (.seq (.ops o4_25) (.seq (.ops o4_27) (.seq (.seq (.ops o4_30) (.block 0 (.seq (.ops o4_33) (.cond (.tmp 33) (.skip) (.seq (.ops o4_37) (.cond (.tmp 35) (.ops o4_39) (.seq (.ops o4_41) (.cond (.tmp 41) (.ops o4_43) (.seq (.ops o4_45) (.cond (.tmp 47) (.ops o4_47) (.seq (.ops o4_49) (.ret)))))))))))) (.clear [0, 1, 4, 5, 6, 8, 10, 12, 13, 14, 15, 16, 17, 18, 19, 20, 21, 22, 23, 24, 25, 26, 27, 28, 29, 30, 31, 32, 33, 34, 35, 36, 37, 38, 39, 40, 41, 42, 43, 44, 45, 46, 47, 48, 49, 50, 51, 52, 53, 54, 55, 56, 57, 58, 59, 60, 61, 62, 63, 64, 65, 66, 67, 68, 69, 70, 71, 72, 73, 74, 75, 76, 77, 78, 79, 80, 81, 82, 83, 84, 85, 86, 87, 88, 89, 90, 91, 92, 93, 94, 95, 96, 97, 98, 99, 100, 101, 102, 103, 104, 105, 106, 107, 108, 109, 110, 111, 112, 113, 114, 115, 116, 117, 118, 119, 120, 121, 122, 123, 124, 125, 126, 127] c4_51)))))))))
def a4 : AFun := ⟨128, [.tmp 6], c4_0⟩
/-! #### skylightlaw30.CellPlays -/
def o5_1 : List AOper := [⟨some 8, .mv (.const (.bool false)), none⟩]
def o5_4 : List AOper := [⟨some 24, .mv (.tmp 0), none⟩,
  ⟨some 25, .bin .gtr (.tmp 24) (.const (.int .i64 40)), none⟩,
  ⟨some 26, .mv (.tmp 25), none⟩,
  ⟨some 27, .mv (.tmp 0), some (26, true)⟩,
  ⟨some 28, .bin .leq (.tmp 27) (.const (.int .i64 262144)), some (26, true)⟩,
  ⟨some 29, .pick (.tmp 26) (.tmp 28) (.const (.bool false)), none⟩,
  ⟨some 30, .mv (.tmp 29), none⟩,
  ⟨some 31, .mv (.tmp 1), some (30, false)⟩,
  ⟨some 32, .len (.tmp 31), some (30, false)⟩,
  ⟨some 33, .bin .gtr (.tmp 32) (.const (.int .i64 60)), some (30, false)⟩,
  ⟨some 34, .pick (.tmp 30) (.const (.bool true)) (.tmp 33), none⟩]
def o5_7 : List AOper := [⟨some 35, .call true (.func 23) [] [(false, [.bool])] true, none⟩,
  ⟨some 8, .mv (.tmp 35), none⟩]
def o5_11 : List AOper := [⟨some 36, .mv (.tmp 0), none⟩,
  ⟨some 37, .call false (.func 24) [.tmp 36] [(false, [.ptr])] true, none⟩,
  ⟨some 9, .mv (.tmp 37), none⟩]
def o5_13 : List AOper := [⟨some 39, .mv (.tmp 0), none⟩,
  ⟨some 40, .call false (.func 25) [.tmp 39] [(true, [.slice, .int .i64, .int .i64]), (false, [.bool])] false, none⟩,
  ⟨some 38, .mv (.tmp 40), none⟩,
  ⟨some 41, .extract (.tmp 38) 0, none⟩,
  ⟨some 42, .extract (.tmp 38) 1, none⟩,
  ⟨some 10, .alloc [.slice none 0 0, .int .i64 0, .int .i64 0], none⟩,
  ⟨none, .store 3 (.tmp 10) (.tmp 41), none⟩,
  ⟨some 11, .mv (.tmp 42), none⟩]
def o5_16 : List AOper := [⟨some 43, .mv (.tmp 9), none⟩,
  ⟨some 44, .eqNil 0 true (.tmp 43), none⟩,
  ⟨some 45, .mv (.tmp 11), none⟩,
  ⟨some 46, .binB true (.tmp 44) (.tmp 45), none⟩]
def o5_19 : List AOper := [⟨some 8, .mv (.const (.bool false)), none⟩]
def o5_24 : List AOper := [⟨some 47, .mv (.tmp 11), none⟩,
  ⟨some 48, .un .not (.tmp 47), none⟩]
def o5_27 : List AOper := [⟨some 49, .call true (.func 23) [] [(false, [.bool])] true, none⟩,
  ⟨some 8, .mv (.tmp 49), none⟩]
def o5_32 : List AOper := [⟨some 12, .mv (.const (.int .i64 0)), none⟩]
def o5_37 : List AOper := [⟨some 50, .mv (.tmp 12), none⟩,
  ⟨some 51, .mv (.tmp 1), none⟩,
  ⟨some 52, .len (.tmp 51), none⟩,
  ⟨some 53, .bin .lss (.tmp 50) (.tmp 52), none⟩]
def o5_44 : List AOper := [⟨some 56, .mv (.tmp 1), none⟩,
  ⟨some 57, .mv (.tmp 12), none⟩,
  ⟨some 58, .indexAddr 4 (.tmp 56) (.tmp 57), none⟩,
  ⟨some 59, .load true [.int .i64, .int .i64, .int .u64, .int .u64] (.tmp 58), none⟩,
  ⟨some 13, .alloc [.int .i64 0, .int .i64 0, .int .u64 0, .int .u64 0], none⟩,
  ⟨none, .store 4 (.tmp 13) (.tmp 59), none⟩]
def o5_46 : List AOper := [⟨some 61, .fieldAddr 1 (.tmp 13), none⟩,
  ⟨some 62, .load false [.int .i64] (.tmp 61), none⟩,
  ⟨some 63, .call false (.func 26) [.tmp 10, .tmp 62] [(false, [.int .u64]), (false, [.bool])] false, none⟩,
  ⟨some 60, .mv (.tmp 63), none⟩,
  ⟨some 64, .extract (.tmp 60) 0, none⟩,
  ⟨some 65, .extract (.tmp 60) 1, none⟩,
  ⟨some 14, .mv (.tmp 64), none⟩,
  ⟨some 15, .mv (.tmp 65), none⟩]
def o5_48 : List AOper := [⟨some 67, .mv (.tmp 9), none⟩,
  ⟨some 68, .fieldAddr 1 (.tmp 13), none⟩,
  ⟨some 69, .load false [.int .i64] (.tmp 68), none⟩,
  ⟨some 70, .call false (.func 27) [.tmp 67, .tmp 69] [(false, [.int .u64]), (false, [.bool])] false, none⟩,
  ⟨some 66, .mv (.tmp 70), none⟩,
  ⟨some 71, .extract (.tmp 66) 0, none⟩,
  ⟨some 72, .extract (.tmp 66) 1, none⟩,
  ⟨some 16, .mv (.tmp 71), none⟩,
  ⟨some 17, .mv (.tmp 72), none⟩]
def o5_51 : List AOper := [⟨some 73, .mv (.tmp 14), none⟩,
  ⟨some 74, .mv (.tmp 16), none⟩,
  ⟨some 75, .bin .neq (.tmp 73) (.tmp 74), none⟩,
  ⟨some 76, .mv (.tmp 75), none⟩,
  ⟨some 77, .mv (.tmp 15), some (76, false)⟩,
  ⟨some 78, .mv (.tmp 17), some (76, false)⟩,
  ⟨some 79, .binB true (.tmp 77) (.tmp 78), some (76, false)⟩,
  ⟨some 80, .pick (.tmp 76) (.const (.bool true)) (.tmp 79), none⟩]
def o5_54 : List AOper := [⟨some 8, .mv (.const (.bool false)), none⟩]
def o5_59 : List AOper := [⟨some 81, .fieldAddr 0 (.tmp 13), none⟩,
  ⟨some 82, .load false [.int .i64] (.tmp 81), none⟩,
  ⟨some 83, .bin .eql (.tmp 82) (.const (.int .i64 2)), none⟩]
def o5_61 : List AOper := [⟨some 84, .mv (.tmp 14), none⟩,
  ⟨some 85, .fieldAddr 2 (.tmp 13), none⟩,
  ⟨none, .store 1 (.tmp 85) (.tmp 84), none⟩]
def o5_65 : List (AOper × Option Nat) := [(⟨some 86, .fieldAddr 0 (.tmp 13), none⟩, none),
  (⟨some 87, .load false [.int .i64] (.tmp 86), none⟩, none),
  (⟨some 88, .bin .gtr (.tmp 87) (.const (.int .i64 0)), none⟩, none),
  (⟨some 89, .mv (.tmp 88), none⟩, none),
  (⟨some 90, .mv (.tmp 9), some (89, true)⟩, none),
  (⟨some 91, .fieldAddr 1 (.tmp 13), some (89, true)⟩, none),
  (⟨some 92, .load false [.int .i64] (.tmp 91), some (89, true)⟩, none),
  (⟨some 93, .fieldAddr 2 (.tmp 13), some (89, true)⟩, none),
  (⟨some 94, .load false [.int .u64] (.tmp 93), some (89, true)⟩, none),
  (⟨some 95, .fieldAddr 3 (.tmp 13), some (89, true)⟩, none),
  (⟨some 96, .load false [.int .u64] (.tmp 95), some (89, true)⟩, none),
  (⟨some 97, .call false (.func 28) [.tmp 90, .tmp 92, .tmp 94, .tmp 96] [(false, [.bool])] true, some (89, true)⟩, none),
  (⟨some 98, .fieldAddr 1 (.tmp 13), some (89, true)⟩, none),
  (⟨some 99, .load false [.int .i64] (.tmp 98), some (89, true)⟩, none),
  (⟨some 100, .fieldAddr 2 (.tmp 13), some (89, true)⟩, none),
  (⟨some 101, .load false [.int .u64] (.tmp 100), some (89, true)⟩, none),
  (⟨some 102, .fieldAddr 3 (.tmp 13), some (89, true)⟩, none),
  (⟨some 103, .load false [.int .u64] (.tmp 102), some (89, true)⟩, none),
  (⟨some 104, .call false (.func 29) [.tmp 10, .tmp 99, .tmp 101, .tmp 103] [(false, [.bool])] true, some (89, true)⟩, none),
  (⟨some 105, .binB true (.tmp 97) (.tmp 104), some (89, true)⟩, none),
  (⟨some 106, .pick (.tmp 89) (.tmp 105) (.const (.bool false)), none⟩, none)]
def o5_68 : List AOper := [⟨some 8, .mv (.const (.bool false)), none⟩]
def o5_72 : List (AOper × Option Nat) := [(⟨some 107, .mv (.tmp 9), none⟩, none),
  (⟨some 108, .call false (.func 30) [.tmp 107] [(false, [.int .i64])] true, none⟩, none),
  (⟨some 109, .fieldAddr 1 (.tmp 10), none⟩, none),
  (⟨some 110, .load false [.int .i64] (.tmp 109), none⟩, none),
  (⟨some 111, .bin .neq (.tmp 108) (.tmp 110), none⟩, none),
  (⟨some 112, .mv (.tmp 111), none⟩, none),
  (⟨some 113, .mv (.tmp 9), some (112, false)⟩, none),
  (⟨some 114, .call false (.func 31) [.tmp 113] [(false, [.int .i64])] true, some (112, false)⟩, none),
  (⟨some 115, .fieldAddr 2 (.tmp 10), some (112, false)⟩, none),
  (⟨some 116, .load false [.int .i64] (.tmp 115), some (112, false)⟩, none),
  (⟨some 117, .bin .neq (.tmp 114) (.tmp 116), some (112, false)⟩, none),
  (⟨some 118, .pick (.tmp 112) (.const (.bool true)) (.tmp 117), none⟩, none)]
def o5_75 : List AOper := [⟨some 8, .mv (.const (.bool false)), none⟩]
def c5_63 : ACode := .seq (.seq (.draw [] 0 o5_65 [(13, 11), (15, 11), (17, 11)]) (.cond (.tmp 106) (.seq (.ops o5_68) (.ret)) (.skip))) (.seq (.draw [] 0 o5_72 [(3, 1), (9, 7)]) (.cond (.tmp 118) (.seq (.ops o5_75) (.ret)) (.skip)))
def o5_78 : List AOper := [⟨some 54, .mv (.tmp 12), none⟩,
  ⟨some 55, .bin .add (.tmp 54) (.const (.int .i64 1)), none⟩,
  ⟨some 12, .mv (.tmp 55), none⟩]
def c5_78 : ACode := .ops o5_78
def b5_34 : ACode := .post (.seq (.seq (.ops o5_37) (.cond (.tmp 53) (.skip) (.exit 0))) (.seq (.block 1 (.seq (.ops o5_44) (.seq (.ops o5_46) (.seq (.ops o5_48) (.seq (.seq (.ops o5_51) (.cond (.tmp 80) (.seq (.ops o5_54) (.ret)) (.skip))) (.seq (.seq (.ops o5_59) (.cond (.tmp 83) (.ops o5_61) (.skip))) (.clear [0, 4, 5, 6, 7, 8, 11, 14, 15, 16, 17, 18, 19, 20, 21, 22, 23, 24, 25, 26, 27, 28, 29, 30, 31, 32, 33, 34, 35, 36, 37, 38, 39, 40, 41, 42, 43, 44, 45, 46, 47, 48, 49, 50, 51, 52, 53, 54, 55, 56, 57, 58, 59, 60, 61, 62, 63, 64, 65, 66, 67, 68, 69, 70, 71, 72, 73, 74, 75, 76, 77, 78, 79, 80, 81, 82, 83, 84, 85, 86, 87, 88, 89, 90, 91, 92, 93, 94, 95, 96, 97, 98, 99, 100, 101, 102, 103, 104, 105, 106, 107, 108, 109, 110, 111, 112, 113, 114, 115, 116, 117, 118, 119, 120, 121, 122, 123, 124, 125, 126, 127, 128, 129, 130, 131, 132, 133, 134, 135, 136, 137, 138, 139, 140, 141, 142, 143, 144, 145, 146, 147, 148, 149, 150, 151, 152, 153, 154, 155, 156, 157, 158, 159, 160, 161, 162, 163, 164, 165, 166, 167, 168, 169, 170, 171, 172, 173, 174, 175, 176, 177, 178, 179, 180, 181, 182, 183, 184, 185, 186, 187, 188, 189, 190, 191, 192, 193, 194, 195, 196, 197, 198] c5_63))))))) (.clear [0, 4, 5, 6, 7, 8, 11, 13, 14, 15, 16, 17, 18, 19, 20, 21, 22, 23, 24, 25, 26, 27, 28, 29, 30, 31, 32, 33, 34, 35, 36, 37, 38, 39, 40, 41, 42, 43, 44, 45, 46, 47, 48, 49, 50, 51, 52, 53, 54, 55, 56, 57, 58, 59, 60, 61, 62, 63, 64, 65, 66, 67, 68, 69, 70, 71, 72, 73, 74, 75, 76, 77, 78, 79, 80, 81, 82, 83, 84, 85, 86, 87, 88, 89, 90, 91, 92, 93, 94, 95, 96, 97, 98, 99, 100, 101, 102, 103, 104, 105, 106, 107, 108, 109, 110, 111, 112, 113, 114, 115, 116, 117, 118, 119, 120, 121, 122, 123, 124, 125, 126, 127, 128, 129, 130, 131, 132, 133, 134, 135, 136, 137, 138, 139, 140, 141, 142, 143, 144, 145, 146, 147, 148, 149, 150, 151, 152, 153, 154, 155, 156, 157, 158, 159, 160, 161, 162, 163, 164, 165, 166, 167, 168, 169, 170, 171, 172, 173, 174, 175, 176, 177, 178, 179, 180, 181, 182, 183, 184, 185, 186, 187, 188, 189, 190, 191, 192, 193, 194, 195, 196, 197, 198] c5_78))) [0, 4, 5, 6, 7, 8, 11, 13, 14, 15, 16, 17, 18, 19, 20, 21, 22, 23, 24, 25, 26, 27, 28, 29, 30, 31, 32, 33, 34, 35, 36, 37, 38, 39, 40, 41, 42, 43, 44, 45, 46, 47, 48, 49, 50, 51, 52, 53, 54, 55, 56, 57, 58, 59, 60, 61, 62, 63, 64, 65, 66, 67, 68, 69, 70, 71, 72, 73, 74, 75, 76, 77, 78, 79, 80, 81, 82, 83, 84, 85, 86, 87, 88, 89, 90, 91, 92, 93, 94, 95, 96, 97, 98, 99, 100, 101, 102, 103, 104, 105, 106, 107, 108, 109, 110, 111, 112, 113, 114, 115, 116, 117, 118, 119, 120, 121, 122, 123, 124, 125, 126, 127, 128, 129, 130, 131, 132, 133, 134, 135, 136, 137, 138, 139, 140, 141, 142, 143, 144, 145, 146, 147, 148, 149, 150, 151, 152, 153, 154, 155, 156, 157, 158, 159, 160, 161, 162, 163, 164, 165, 166, 167, 168, 169, 170, 171, 172, 173, 174, 175, 176, 177, 178, 179, 180, 181, 182, 183, 184, 185, 186, 187, 188, 189, 190, 191, 192, 193, 194, 195, 196, 197, 198]
def o5_80 : List AOper := [⟨some 18, .mv (.const (.pointer none)), none⟩]
def o5_82 : List AOper := [⟨some 119, .build [.bool false, .slice none 0 0, .int .i64 0, .int .i64 0] [], none⟩,
  ⟨some 120, .box (.tmp 119), none⟩,
  ⟨some 19, .mv (.tmp 120), none⟩]
def o5_84 : List AOper := [⟨some 122, .mv (.tmp 18), none⟩,
  ⟨some 123, .call false (.func 27) [.tmp 122, .const (.int .i64 0)] [(false, [.int .u64]), (false, [.bool])] false, none⟩,
  ⟨some 121, .mv (.tmp 123), none⟩,
  ⟨some 124, .extract (.tmp 121) 0, none⟩,
  ⟨some 125, .extract (.tmp 121) 1, none⟩,
  ⟨some 20, .mv (.tmp 124), none⟩,
  ⟨some 21, .mv (.tmp 125), none⟩]
def o5_86 : List AOper := [⟨some 127, .mv (.tmp 19), none⟩,
  ⟨some 128, .call false (.func 27) [.tmp 127, .const (.int .i64 0)] [(false, [.int .u64]), (false, [.bool])] false, none⟩,
  ⟨some 126, .mv (.tmp 128), none⟩,
  ⟨some 129, .extract (.tmp 126) 0, none⟩,
  ⟨some 130, .extract (.tmp 126) 1, none⟩,
  ⟨some 22, .mv (.tmp 129), none⟩,
  ⟨some 23, .mv (.tmp 130), none⟩]
def o5_89 : List AOper := [⟨some 131, .mv (.tmp 21), none⟩,
  ⟨some 132, .mv (.tmp 131), none⟩,
  ⟨some 133, .mv (.tmp 23), some (132, false)⟩,
  ⟨some 134, .pick (.tmp 132) (.const (.bool true)) (.tmp 133), none⟩,
  ⟨some 135, .mv (.tmp 134), none⟩,
  ⟨some 136, .mv (.tmp 18), some (135, false)⟩,
  ⟨some 137, .call false (.func 28) [.tmp 136, .const (.int .i64 0), .const (.int .u64 0), .const (.int .u64 1)] [(false, [.bool])] true, some (135, false)⟩,
  ⟨some 138, .pick (.tmp 135) (.const (.bool true)) (.tmp 137), none⟩,
  ⟨some 139, .mv (.tmp 138), none⟩,
  ⟨some 140, .mv (.tmp 19), some (139, false)⟩,
  ⟨some 141, .call false (.func 28) [.tmp 140, .const (.int .i64 0), .const (.int .u64 0), .const (.int .u64 1)] [(false, [.bool])] true, some (139, false)⟩,
  ⟨some 142, .pick (.tmp 139) (.const (.bool true)) (.tmp 141), none⟩,
  ⟨some 143, .mv (.tmp 142), none⟩,
  ⟨some 144, .mv (.tmp 18), some (143, false)⟩,
  ⟨some 145, .call false (.func 32) [.tmp 144] [(false, [.int .i64])] true, some (143, false)⟩,
  ⟨some 146, .mv (.tmp 19), some (143, false)⟩,
  ⟨some 147, .call false (.func 32) [.tmp 146] [(false, [.int .i64])] true, some (143, false)⟩,
  ⟨some 148, .bin .add (.tmp 145) (.tmp 147), some (143, false)⟩,
  ⟨some 149, .mv (.tmp 18), some (143, false)⟩,
  ⟨some 150, .call false (.func 30) [.tmp 149] [(false, [.int .i64])] true, some (143, false)⟩,
  ⟨some 151, .bin .add (.tmp 148) (.tmp 150), some (143, false)⟩,
  ⟨some 152, .mv (.tmp 19), some (143, false)⟩,
  ⟨some 153, .call false (.func 30) [.tmp 152] [(false, [.int .i64])] true, some (143, false)⟩,
  ⟨some 154, .bin .add (.tmp 151) (.tmp 153), some (143, false)⟩,
  ⟨some 155, .mv (.tmp 18), some (143, false)⟩,
  ⟨some 156, .call false (.func 31) [.tmp 155] [(false, [.int .i64])] true, some (143, false)⟩,
  ⟨some 157, .bin .add (.tmp 154) (.tmp 156), some (143, false)⟩,
  ⟨some 158, .mv (.tmp 19), some (143, false)⟩,
  ⟨some 159, .call false (.func 31) [.tmp 158] [(false, [.int .i64])] true, some (143, false)⟩,
  ⟨some 160, .bin .add (.tmp 157) (.tmp 159), some (143, false)⟩,
  ⟨some 161, .bin .neq (.tmp 160) (.const (.int .i64 0)), some (143, false)⟩,
  ⟨some 162, .pick (.tmp 143) (.const (.bool true)) (.tmp 161), none⟩,
  ⟨some 163, .mv (.tmp 162), none⟩,
  ⟨some 164, .mv (.tmp 18), some (163, false)⟩,
  ⟨some 165, .call false (.func 33) [.tmp 164, .const (.int .i64 0), .const (.int .i64 1)] [(false, [.slice])] true, some (163, false)⟩,
  ⟨some 166, .len (.tmp 165), some (163, false)⟩,
  ⟨some 167, .mv (.tmp 19), some (163, false)⟩,
  ⟨some 168, .call false (.func 33) [.tmp 167, .const (.int .i64 0), .const (.int .i64 1)] [(false, [.slice])] true, some (163, false)⟩,
  ⟨some 169, .len (.tmp 168), some (163, false)⟩,
  ⟨some 170, .bin .add (.tmp 166) (.tmp 169), some (163, false)⟩,
  ⟨some 171, .bin .neq (.tmp 170) (.const (.int .i64 0)), some (163, false)⟩,
  ⟨some 172, .pick (.tmp 163) (.const (.bool true)) (.tmp 171), none⟩]
def o5_92 : List AOper := [⟨some 8, .mv (.const (.bool false)), none⟩]
def o5_96 : List (AOper × Option Nat) := [(⟨some 173, .mv (.tmp 9), none⟩, none),
  (⟨some 174, .call false (.func 32) [.tmp 173] [(false, [.int .i64])] true, none⟩, none),
  (⟨some 175, .fieldAddr 0 (.tmp 10), none⟩, none),
  (⟨some 176, .load false [.slice] (.tmp 175), none⟩, none),
  (⟨some 177, .len (.tmp 176), none⟩, none),
  (⟨some 178, .bin .eql (.tmp 174) (.tmp 177), none⟩, none),
  (⟨some 179, .mv (.tmp 178), none⟩, none),
  (⟨some 180, .mv (.tmp 9), some (179, true)⟩, none),
  (⟨some 181, .call false (.func 33) [.tmp 180, .const (.int .i64 0), .const (.int .i64 100)] [(false, [.slice])] true, some (179, true)⟩, none),
  (⟨some 182, .fieldAddr 0 (.tmp 10), some (179, true)⟩, none),
  (⟨some 183, .load false [.slice] (.tmp 182), some (179, true)⟩, none),
  (⟨some 184, .call false (.func 34) [.tmp 181, .tmp 183] [(false, [.bool])] true, some (179, true)⟩, none),
  (⟨some 185, .pick (.tmp 179) (.tmp 184) (.const (.bool false)), none⟩, none),
  (⟨some 186, .mv (.tmp 185), none⟩, none),
  (⟨some 187, .mv (.tmp 9), some (186, true)⟩, none),
  (⟨some 188, .mv (.tmp 2), some (186, true)⟩, none),
  (⟨some 189, .mv (.tmp 3), some (186, true)⟩, none),
  (⟨some 190, .call false (.func 33) [.tmp 187, .tmp 188, .tmp 189] [(false, [.slice])] true, some (186, true)⟩, none),
  (⟨some 191, .mv (.tmp 2), some (186, true)⟩, none),
  (⟨some 192, .mv (.tmp 3), some (186, true)⟩, none),
  (⟨some 193, .call false (.func 35) [.tmp 10, .tmp 191, .tmp 192] [(false, [.slice])] true, some (186, true)⟩, none),
  (⟨some 194, .call false (.func 34) [.tmp 190, .tmp 193] [(false, [.bool])] true, some (186, true)⟩, none),
  (⟨some 195, .pick (.tmp 186) (.tmp 194) (.const (.bool false)), none⟩, none),
  (⟨some 196, .mv (.tmp 195), none⟩, none),
  (⟨some 197, .call true (.func 23) [] [(false, [.bool])] true, some (196, true)⟩, none),
  (⟨some 198, .pick (.tmp 196) (.tmp 197) (.const (.bool false)), none⟩, none),
  (⟨some 8, .mv (.tmp 198), none⟩, none)]
def c5_79 : ACode := .seq (.ops o5_80) (.seq (.ops o5_82) (.seq (.ops o5_84) (.seq (.ops o5_86) (.seq (.seq (.ops o5_89) (.cond (.tmp 172) (.seq (.ops o5_92) (.ret)) (.skip))) (.seq (.draw [] 0 o5_96 [(3, 1), (10, 8)]) (.ret))))))
def c5_0 : ACode := .seq (.ops o5_1) (.seq (.seq (.ops o5_4) (.cond (.tmp 34) (.seq (.ops o5_7) (.ret)) (.skip))) (.seq (.ops o5_11) (.seq (.ops o5_13) (.seq (.seq (.ops o5_16) (.cond (.tmp 46) (.seq (.ops o5_19) (.ret)) (.skip))) (.seq (.seq (.ops o5_24) (.cond (.tmp 48) (.seq (.ops o5_27) (.ret)) (.skip))) (.seq (.seq (.ops o5_32) (.block 0 (.clear [0, 4, 5, 6, 7, 8, 11, 13, 14, 15, 16, 17, 18, 19, 20, 21, 22, 23, 24, 25, 26, 27, 28, 29, 30, 31, 32, 33, 34, 35, 36, 37, 38, 39, 40, 41, 42, 43, 44, 45, 46, 47, 48, 49, 50, 51, 52, 53, 54, 55, 56, 57, 58, 59, 60, 61, 62, 63, 64, 65, 66, 67, 68, 69, 70, 71, 72, 73, 74, 75, 76, 77, 78, 79, 80, 81, 82, 83, 84, 85, 86, 87, 88, 89, 90, 91, 92, 93, 94, 95, 96, 97, 98, 99, 100, 101, 102, 103, 104, 105, 106, 107, 108, 109, 110, 111, 112, 113, 114, 115, 116, 117, 118, 119, 120, 121, 122, 123, 124, 125, 126, 127, 128, 129, 130, 131, 132, 133, 134, 135, 136, 137, 138, 139, 140, 141, 142, 143, 144, 145, 146, 147, 148, 149, 150, 151, 152, 153, 154, 155, 156, 157, 158, 159, 160, 161, 162, 163, 164, 165, 166, 167, 168, 169, 170, 171, 172, 173, 174, 175, 176, 177, 178, 179, 180, 181, 182, 183, 184, 185, 186, 187, 188, 189, 190, 191, 192, 193, 194, 195, 196, 197, 198] (.loop b5_34)))) (.clear [0, 1, 4, 5, 6, 7, 8, 11, 12, 13, 14, 15, 16, 17, 18, 19, 20, 21, 22, 23, 24, 25, 26, 27, 28, 29, 30, 31, 32, 33, 34, 35, 36, 37, 38, 39, 40, 41, 42, 43, 44, 45, 46, 47, 48, 49, 50, 51, 52, 53, 54, 55, 56, 57, 58, 59, 60, 61, 62, 63, 64, 65, 66, 67, 68, 69, 70, 71, 72, 73, 74, 75, 76, 77, 78, 79, 80, 81, 82, 83, 84, 85, 86, 87, 88, 89, 90, 91, 92, 93, 94, 95, 96, 97, 98, 99, 100, 101, 102, 103, 104, 105, 106, 107, 108, 109, 110, 111, 112, 113, 114, 115, 116, 117, 118, 119, 120, 121, 122, 123, 124, 125, 126, 127, 128, 129, 130, 131, 132, 133, 134, 135, 136, 137, 138, 139, 140, 141, 142, 143, 144, 145, 146, 147, 148, 149, 150, 151, 152, 153, 154, 155, 156, 157, 158, 159, 160, 161, 162, 163, 164, 165, 166, 167, 168, 169, 170, 171, 172, 173, 174, 175, 176, 177, 178, 179, 180, 181, 182, 183, 184, 185, 186, 187, 188, 189, 190, 191, 192, 193, 194, 195, 196, 197, 198] c5_79)))))))
def a5 : AFun := ⟨199, [.tmp 8], c5_0⟩
/-! #### skylightlaw30.CellCounts -/
def o6_1 : List AOper := [⟨some 2, .mv (.const (.bool false)), none⟩]
def o6_4 : List AOper := [⟨some 14, .mv (.tmp 0), none⟩,
  ⟨some 15, .len (.tmp 14), none⟩,
  ⟨some 16, .bin .gtr (.tmp 15) (.const (.int .i64 100)), none⟩]
def o6_7 : List AOper := [⟨some 17, .call true (.func 23) [] [(false, [.bool])] true, none⟩,
  ⟨some 2, .mv (.tmp 17), none⟩]
def o6_11 : List AOper := [⟨some 18, .call false (.func 24) [.const (.int .i64 3)] [(false, [.ptr])] true, none⟩,
  ⟨some 3, .mv (.tmp 18), none⟩]
def o6_14 : List AOper := [⟨some 19, .mv (.tmp 3), none⟩,
  ⟨some 20, .eqNil 0 false (.tmp 19), none⟩]
def o6_17 : List AOper := [⟨some 2, .mv (.const (.bool false)), none⟩]
def o6_21 : List AOper := [⟨some 4, .alloc [.int .u64 0, .int .u64 0, .int .u64 0, .int .u64 0, .int .u64 0, .int .u64 0, .int .u64 0, .int .u64 0], none⟩]
def o6_23 : List AOper := [⟨some 5, .alloc [.bool false, .bool false, .bool false, .bool false, .bool false, .bool false, .bool false, .bool false], none⟩]
def o6_25 : List AOper := [⟨some 6, .mv (.const (.int .u64 0)), none⟩]
def o6_28 : List AOper := [⟨some 7, .mv (.const (.int .i64 0)), none⟩]
def o6_33 : List AOper := [⟨some 21, .mv (.tmp 7), none⟩,
  ⟨some 22, .mv (.tmp 0), none⟩,
  ⟨some 23, .len (.tmp 22), none⟩,
  ⟨some 24, .bin .lss (.tmp 21) (.tmp 23), none⟩]
def o6_40 : List AOper := [⟨some 27, .mv (.tmp 0), none⟩,
  ⟨some 28, .mv (.tmp 7), none⟩,
  ⟨some 29, .indexAddr 1 (.tmp 27) (.tmp 28), none⟩,
  ⟨some 30, .load false [.int .u8] (.tmp 29), none⟩,
  ⟨some 31, .conv .i64 (.tmp 30), none⟩,
  ⟨some 32, .bin .rem (.tmp 31) (.const (.int .i64 8)), none⟩,
  ⟨some 8, .mv (.tmp 32), none⟩]
def o6_43 : List AOper := [⟨some 33, .mv (.tmp 8), none⟩,
  ⟨some 34, .indexArr 8 1 (.tmp 5) (.tmp 33), none⟩,
  ⟨some 35, .load false [.bool] (.tmp 34), none⟩,
  ⟨some 36, .un .not (.tmp 35), none⟩]
def o6_46 : List AOper := [⟨some 38, .mv (.tmp 3), none⟩,
  ⟨some 39, .call false (.func 27) [.tmp 38, .const (.int .i64 1)] [(false, [.int .u64]), (false, [.bool])] false, none⟩,
  ⟨some 37, .mv (.tmp 39), none⟩,
  ⟨some 40, .extract (.tmp 37) 0, none⟩,
  ⟨some 41, .extract (.tmp 37) 1, none⟩,
  ⟨some 9, .mv (.tmp 40), none⟩,
  ⟨some 10, .mv (.tmp 41), none⟩]
def o6_49 : List AOper := [⟨some 42, .mv (.tmp 10), none⟩,
  ⟨some 43, .un .not (.tmp 42), none⟩,
  ⟨some 44, .mv (.tmp 43), none⟩,
  ⟨some 45, .mv (.tmp 9), some (44, false)⟩,
  ⟨some 46, .mv (.tmp 6), some (44, false)⟩,
  ⟨some 47, .bin .neq (.tmp 45) (.tmp 46), some (44, false)⟩,
  ⟨some 48, .pick (.tmp 44) (.const (.bool true)) (.tmp 47), none⟩]
def o6_52 : List AOper := [⟨some 2, .mv (.const (.bool false)), none⟩]
def o6_56 : List AOper := [⟨some 49, .mv (.tmp 8), none⟩,
  ⟨some 50, .mv (.tmp 9), none⟩,
  ⟨some 51, .indexArr 8 1 (.tmp 4) (.tmp 49), none⟩,
  ⟨none, .store 1 (.tmp 51) (.tmp 50), none⟩]
def o6_58 : List AOper := [⟨some 52, .mv (.tmp 8), none⟩,
  ⟨some 53, .indexArr 8 1 (.tmp 5) (.tmp 52), none⟩,
  ⟨none, .store 1 (.tmp 53) (.const (.bool true)), none⟩]
def o6_62 : List AOper := [⟨some 54, .mv (.tmp 8), none⟩,
  ⟨some 55, .indexArr 8 1 (.tmp 5) (.tmp 54), none⟩,
  ⟨none, .store 1 (.tmp 55) (.const (.bool false)), none⟩]
def o6_64 : List (AOper × Option Nat) := [(⟨some 56, .mv (.tmp 3), none⟩, none),
  (⟨some 57, .mv (.tmp 8), none⟩, none),
  (⟨some 58, .indexArr 8 1 (.tmp 4) (.tmp 57), none⟩, none),
  (⟨some 59, .load false [.int .u64] (.tmp 58), none⟩, none),
  (⟨some 60, .mv (.tmp 8), none⟩, none),
  (⟨some 61, .indexArr 8 1 (.tmp 4) (.tmp 60), none⟩, none),
  (⟨some 62, .load false [.int .u64] (.tmp 61), none⟩, none),
  (⟨some 63, .bin .add (.tmp 62) (.const (.int .u64 1)), none⟩, none),
  (⟨some 64, .call false (.func 28) [.tmp 56, .const (.int .i64 1), .tmp 59, .tmp 63] [(false, [.bool])] true, none⟩, none),
  (⟨some 11, .mv (.tmp 64), none⟩, none)]
def o6_67 : List AOper := [⟨some 65, .mv (.tmp 11), none⟩,
  ⟨some 66, .mv (.tmp 8), none⟩,
  ⟨some 67, .indexArr 8 1 (.tmp 4) (.tmp 66), none⟩,
  ⟨some 68, .load false [.int .u64] (.tmp 67), none⟩,
  ⟨some 69, .mv (.tmp 6), none⟩,
  ⟨some 70, .bin .eql (.tmp 68) (.tmp 69), none⟩,
  ⟨some 71, .binB true (.tmp 65) (.tmp 70), none⟩]
def o6_70 : List AOper := [⟨some 2, .mv (.const (.bool false)), none⟩]
def o6_74 : List AOper := [⟨some 72, .mv (.tmp 11), none⟩]
def o6_76 : List AOper := [⟨some 73, .mv (.tmp 6), none⟩,
  ⟨some 74, .bin .add (.tmp 73) (.const (.int .u64 1)), none⟩,
  ⟨some 6, .mv (.tmp 74), none⟩]
def o6_78 : List AOper := [⟨some 25, .mv (.tmp 7), none⟩,
  ⟨some 26, .bin .add (.tmp 25) (.const (.int .i64 1)), none⟩,
  ⟨some 7, .mv (.tmp 26), none⟩]
def c6_78 : ACode := .ops o6_78
def b6_30 : ACode := .post (.seq (.seq (.ops o6_33) (.cond (.tmp 24) (.skip) (.exit 0))) (.seq (.block 1 (.seq (.ops o6_40) (.seq (.seq (.ops o6_43) (.cond (.tmp 36) (.seq (.ops o6_46) (.seq (.seq (.ops o6_49) (.cond (.tmp 48) (.seq (.ops o6_52) (.ret)) (.skip))) (.seq (.ops o6_56) (.seq (.ops o6_58) (.exit 1))))) (.skip))) (.seq (.ops o6_62) (.seq (.draw [] 0 o6_64 []) (.seq (.seq (.ops o6_67) (.cond (.tmp 71) (.seq (.ops o6_70) (.ret)) (.skip))) (.seq (.ops o6_74) (.cond (.tmp 72) (.ops o6_76) (.skip))))))))) (.clear [1, 2, 8, 9, 10, 11, 12, 13, 14, 15, 16, 17, 18, 19, 20, 21, 22, 23, 24, 25, 26, 27, 28, 29, 30, 31, 32, 33, 34, 35, 36, 37, 38, 39, 40, 41, 42, 43, 44, 45, 46, 47, 48, 49, 50, 51, 52, 53, 54, 55, 56, 57, 58, 59, 60, 61, 62, 63, 64, 65, 66, 67, 68, 69, 70, 71, 72, 73, 74, 75, 76, 77, 78, 79, 80, 81, 82, 83, 84, 85, 86, 87, 88, 89, 90, 91, 92, 93, 94, 95, 96, 97, 98, 99, 100, 101, 102, 103, 104, 105, 106, 107] c6_78))) [1, 2, 8, 9, 10, 11, 12, 13, 14, 15, 16, 17, 18, 19, 20, 21, 22, 23, 24, 25, 26, 27, 28, 29, 30, 31, 32, 33, 34, 35, 36, 37, 38, 39, 40, 41, 42, 43, 44, 45, 46, 47, 48, 49, 50, 51, 52, 53, 54, 55, 56, 57, 58, 59, 60, 61, 62, 63, 64, 65, 66, 67, 68, 69, 70, 71, 72, 73, 74, 75, 76, 77, 78, 79, 80, 81, 82, 83, 84, 85, 86, 87, 88, 89, 90, 91, 92, 93, 94, 95, 96, 97, 98, 99, 100, 101, 102, 103, 104, 105, 106, 107]
def o6_80 : List AOper := [⟨some 76, .mv (.tmp 3), none⟩,
  ⟨some 77, .call false (.func 27) [.tmp 76, .const (.int .i64 1)] [(false, [.int .u64]), (false, [.bool])] false, none⟩,
  ⟨some 75, .mv (.tmp 77), none⟩,
  ⟨some 78, .extract (.tmp 75) 0, none⟩,
  ⟨some 79, .extract (.tmp 75) 1, none⟩,
  ⟨some 12, .mv (.tmp 78), none⟩,
  ⟨some 13, .mv (.tmp 79), none⟩]
def o6_82 : List AOper := [⟨some 80, .mv (.tmp 12), none⟩,
  ⟨some 81, .mv (.tmp 6), none⟩,
  ⟨some 82, .bin .eql (.tmp 80) (.tmp 81), none⟩,
  ⟨some 83, .mv (.tmp 82), none⟩,
  ⟨some 84, .mv (.tmp 3), some (83, true)⟩,
  ⟨some 85, .call false (.func 31) [.tmp 84] [(false, [.int .i64])] true, some (83, true)⟩,
  ⟨some 86, .mv (.tmp 6), some (83, true)⟩,
  ⟨some 87, .conv .i64 (.tmp 86), some (83, true)⟩,
  ⟨some 88, .bin .eql (.tmp 85) (.tmp 87), some (83, true)⟩,
  ⟨some 89, .pick (.tmp 83) (.tmp 88) (.const (.bool false)), none⟩,
  ⟨some 90, .mv (.tmp 89), none⟩,
  ⟨some 91, .mv (.tmp 3), some (90, true)⟩,
  ⟨some 92, .call false (.func 30) [.tmp 91] [(false, [.int .i64])] true, some (90, true)⟩,
  ⟨some 93, .mv (.tmp 0), some (90, true)⟩,
  ⟨some 94, .len (.tmp 93), some (90, true)⟩,
  ⟨some 95, .bin .add (.tmp 94) (.const (.int .i64 1)), some (90, true)⟩,
  ⟨some 96, .bin .eql (.tmp 92) (.tmp 95), some (90, true)⟩,
  ⟨some 97, .pick (.tmp 90) (.tmp 96) (.const (.bool false)), none⟩,
  ⟨some 98, .mv (.tmp 97), none⟩,
  ⟨some 99, .mv (.tmp 3), some (98, true)⟩,
  ⟨some 100, .call false (.func 33) [.tmp 99, .const (.int .i64 0), .const (.int .i64 3)] [(false, [.slice])] true, some (98, true)⟩,
  ⟨some 101, .mv (.tmp 6), some (98, true)⟩,
  ⟨some 102, .buildSlice 1 3 [.int .u64 0, .int .u64 0, .int .u64 0] [(0, 1, .const (.int .u64 0)), (1, 1, .tmp 101), (2, 1, .const (.int .u64 0))], some (98, true)⟩,
  ⟨some 103, .call false (.func 34) [.tmp 100, .tmp 102] [(false, [.bool])] true, some (98, true)⟩,
  ⟨some 104, .pick (.tmp 98) (.tmp 103) (.const (.bool false)), none⟩,
  ⟨some 105, .mv (.tmp 104), none⟩,
  ⟨some 106, .call true (.func 23) [] [(false, [.bool])] true, some (105, true)⟩,
  ⟨some 107, .pick (.tmp 105) (.tmp 106) (.const (.bool false)), none⟩,
  ⟨some 2, .mv (.tmp 107), none⟩]
def c6_79 : ACode := .seq (.ops o6_80) (.seq (.ops o6_82) (.ret))
def c6_0 : ACode := .seq (.ops o6_1) (.seq (.seq (.ops o6_4) (.cond (.tmp 16) (.seq (.ops o6_7) (.ret)) (.skip))) (.seq (.ops o6_11) (.seq (.seq (.ops o6_14) (.cond (.tmp 20) (.seq (.ops o6_17) (.ret)) (.skip))) (.seq (.ops o6_21) (.seq (.ops o6_23) (.seq (.ops o6_25) (.seq (.seq (.ops o6_28) (.block 0 (.clear [1, 2, 8, 9, 10, 11, 12, 13, 14, 15, 16, 17, 18, 19, 20, 21, 22, 23, 24, 25, 26, 27, 28, 29, 30, 31, 32, 33, 34, 35, 36, 37, 38, 39, 40, 41, 42, 43, 44, 45, 46, 47, 48, 49, 50, 51, 52, 53, 54, 55, 56, 57, 58, 59, 60, 61, 62, 63, 64, 65, 66, 67, 68, 69, 70, 71, 72, 73, 74, 75, 76, 77, 78, 79, 80, 81, 82, 83, 84, 85, 86, 87, 88, 89, 90, 91, 92, 93, 94, 95, 96, 97, 98, 99, 100, 101, 102, 103, 104, 105, 106, 107] (.loop b6_30)))) (.clear [1, 2, 4, 5, 7, 8, 9, 10, 11, 12, 13, 14, 15, 16, 17, 18, 19, 20, 21, 22, 23, 24, 25, 26, 27, 28, 29, 30, 31, 32, 33, 34, 35, 36, 37, 38, 39, 40, 41, 42, 43, 44, 45, 46, 47, 48, 49, 50, 51, 52, 53, 54, 55, 56, 57, 58, 59, 60, 61, 62, 63, 64, 65, 66, 67, 68, 69, 70, 71, 72, 73, 74, 75, 76, 77, 78, 79, 80, 81, 82, 83, 84, 85, 86, 87, 88, 89, 90, 91, 92, 93, 94, 95, 96, 97, 98, 99, 100, 101, 102, 103, 104, 105, 106, 107] c6_79))))))))
def a6 : AFun := ⟨108, [.tmp 2], c6_0⟩
/-! #### skylightlaw31.LayoutFilm -/
def o7_1 : List AOper := [⟨some 3, .box (.tmp 0), none⟩,
  ⟨some 6, .mv (.const (.bool false)), none⟩]
def o7_4 : List AOper := [⟨some 20, .load true [.int .i64, .int .i64] (.tmp 3), none⟩,
  ⟨some 21, .call true (.func 12) [.tmp 20] [(false, [.bool])] true, none⟩,
  ⟨some 22, .un .not (.tmp 21), none⟩,
  ⟨some 23, .mv (.tmp 22), none⟩,
  ⟨some 24, .fieldAddr 0 (.tmp 3), some (23, false)⟩,
  ⟨some 25, .load false [.int .i64] (.tmp 24), some (23, false)⟩,
  ⟨some 26, .bin .gtr (.tmp 25) (.const (.int .i64 20)), some (23, false)⟩,
  ⟨some 27, .pick (.tmp 23) (.const (.bool true)) (.tmp 26), none⟩,
  ⟨some 28, .mv (.tmp 27), none⟩,
  ⟨some 29, .fieldAddr 1 (.tmp 3), some (28, false)⟩,
  ⟨some 30, .load false [.int .i64] (.tmp 29), some (28, false)⟩,
  ⟨some 31, .bin .gtr (.tmp 30) (.const (.int .i64 5)), some (28, false)⟩,
  ⟨some 32, .pick (.tmp 28) (.const (.bool true)) (.tmp 31), none⟩,
  ⟨some 33, .mv (.tmp 32), none⟩,
  ⟨some 34, .mv (.tmp 1), some (33, false)⟩,
  ⟨some 35, .len (.tmp 34), some (33, false)⟩,
  ⟨some 36, .bin .gtr (.tmp 35) (.const (.int .i64 30)), some (33, false)⟩,
  ⟨some 37, .pick (.tmp 33) (.const (.bool true)) (.tmp 36), none⟩]
def o7_7 : List AOper := [⟨some 38, .call true (.func 13) [] [(false, [.bool])] true, none⟩,
  ⟨some 6, .mv (.tmp 38), none⟩]
def o7_11 : List AOper := [⟨some 39, .load true [.int .i64, .int .i64] (.tmp 3), none⟩,
  ⟨some 40, .call true (.func 11) [.tmp 39] [(true, [.int .i64, .int .i64])] true, none⟩,
  ⟨some 7, .alloc [.int .i64 0, .int .i64 0], none⟩,
  ⟨none, .store 2 (.tmp 7) (.tmp 40), none⟩]
def o7_13 : List AOper := [⟨some 41, .load true [.int .i64, .int .i64] (.tmp 7), none⟩,
  ⟨some 42, .call true (.func 16) [.tmp 41] [(false, [.int .i64])] true, none⟩,
  ⟨some 43, .call false (.func 24) [.tmp 42] [(false, [.ptr])] true, none⟩,
  ⟨some 8, .mv (.tmp 43), none⟩]
def o7_15 : List AOper := [⟨some 45, .load true [.int .i64, .int .i64] (.tmp 3), none⟩,
  ⟨some 46, .call true (.func 36) [.tmp 45] [(false, [.int .i64])] true, none⟩,
  ⟨some 47, .call false (.func 25) [.tmp 46] [(true, [.slice, .int .i64, .int .i64]), (false, [.bool])] false, none⟩,
  ⟨some 44, .mv (.tmp 47), none⟩,
  ⟨some 48, .extract (.tmp 44) 0, none⟩,
  ⟨some 49, .extract (.tmp 44) 1, none⟩,
  ⟨some 9, .alloc [.slice none 0 0, .int .i64 0, .int .i64 0], none⟩,
  ⟨none, .store 3 (.tmp 9) (.tmp 48), none⟩,
  ⟨some 10, .mv (.tmp 49), none⟩]
def o7_18 : List AOper := [⟨some 11, .mv (.const (.int .i64 0)), none⟩]
def o7_23 : List AOper := [⟨some 50, .mv (.tmp 11), none⟩,
  ⟨some 51, .mv (.tmp 1), none⟩,
  ⟨some 52, .len (.tmp 51), none⟩,
  ⟨some 53, .bin .lss (.tmp 50) (.tmp 52), none⟩]
def o7_30 : List (AOper × Option Nat) := [(⟨some 56, .load true [.int .i64, .int .i64] (.tmp 7), none⟩, none),
  (⟨some 57, .mv (.tmp 1), none⟩, none),
  (⟨some 58, .mv (.tmp 11), none⟩, none),
  (⟨some 59, .indexAddr 3 (.tmp 57) (.tmp 58), none⟩, none),
  (⟨some 60, .fieldAddr 1 (.tmp 59), none⟩, none),
  (⟨some 61, .load false [.int .i64] (.tmp 60), none⟩, none),
  (⟨some 62, .mv (.tmp 1), none⟩, none),
  (⟨some 63, .mv (.tmp 11), none⟩, none),
  (⟨some 64, .indexAddr 3 (.tmp 62) (.tmp 63), none⟩, none),
  (⟨some 65, .fieldAddr 2 (.tmp 64), none⟩, none),
  (⟨some 66, .load false [.int .i64] (.tmp 65), none⟩, none),
  (⟨some 67, .call true (.func 20) [.tmp 56, .tmp 61, .tmp 66] [(false, [.int .i64])] true, none⟩, none),
  (⟨some 12, .mv (.tmp 67), none⟩, none)]
def o7_32 : List AOper := [⟨some 69, .mv (.tmp 8), none⟩,
  ⟨some 70, .mv (.tmp 12), none⟩,
  ⟨some 71, .call false (.func 27) [.tmp 69, .tmp 70] [(false, [.int .u64]), (false, [.bool])] false, none⟩,
  ⟨some 68, .mv (.tmp 71), none⟩,
  ⟨some 72, .extract (.tmp 68) 0, none⟩,
  ⟨some 73, .extract (.tmp 68) 1, none⟩,
  ⟨some 13, .mv (.tmp 72), none⟩,
  ⟨some 14, .mv (.tmp 73), none⟩]
def o7_34 : List AOper := [⟨some 75, .mv (.tmp 12), none⟩,
  ⟨some 76, .call false (.func 26) [.tmp 9, .tmp 75] [(false, [.int .u64]), (false, [.bool])] false, none⟩,
  ⟨some 74, .mv (.tmp 76), none⟩,
  ⟨some 77, .extract (.tmp 74) 0, none⟩,
  ⟨some 78, .extract (.tmp 74) 1, none⟩,
  ⟨some 15, .mv (.tmp 77), none⟩,
  ⟨some 16, .mv (.tmp 78), none⟩]
def o7_36 : List AOper := [⟨some 79, .mv (.tmp 8), none⟩,
  ⟨some 80, .mv (.tmp 12), none⟩,
  ⟨some 81, .mv (.tmp 13), none⟩,
  ⟨some 82, .mv (.tmp 13), none⟩,
  ⟨some 83, .mv (.tmp 11), none⟩,
  ⟨some 84, .conv .u64 (.tmp 83), none⟩,
  ⟨some 85, .bin .add (.tmp 82) (.tmp 84), none⟩,
  ⟨some 86, .bin .add (.tmp 85) (.const (.int .u64 1)), none⟩,
  ⟨some 87, .call false (.func 28) [.tmp 79, .tmp 80, .tmp 81, .tmp 86] [(false, [.bool])] true, none⟩,
  ⟨some 88, .mv (.tmp 12), none⟩,
  ⟨some 89, .mv (.tmp 15), none⟩,
  ⟨some 90, .mv (.tmp 15), none⟩,
  ⟨some 91, .mv (.tmp 11), none⟩,
  ⟨some 92, .conv .u64 (.tmp 91), none⟩,
  ⟨some 93, .bin .add (.tmp 90) (.tmp 92), none⟩,
  ⟨some 94, .bin .add (.tmp 93) (.const (.int .u64 1)), none⟩,
  ⟨some 95, .call false (.func 29) [.tmp 9, .tmp 88, .tmp 89, .tmp 94] [(false, [.bool])] true, none⟩,
  ⟨some 96, .binB true (.tmp 87) (.tmp 95), none⟩]
def o7_39 : List AOper := [⟨some 6, .mv (.const (.bool false)), none⟩]
def o7_42 : List AOper := [⟨some 54, .mv (.tmp 11), none⟩,
  ⟨some 55, .bin .add (.tmp 54) (.const (.int .i64 1)), none⟩,
  ⟨some 11, .mv (.tmp 55), none⟩]
def c7_42 : ACode := .ops o7_42
def b7_20 : ACode := .post (.seq (.seq (.ops o7_23) (.cond (.tmp 53) (.skip) (.exit 0))) (.seq (.block 1 (.seq (.draw [] 0 o7_30 []) (.seq (.ops o7_32) (.seq (.ops o7_34) (.seq (.ops o7_36) (.cond (.tmp 96) (.seq (.ops o7_39) (.ret)) (.skip))))))) (.clear [0, 4, 5, 6, 10, 12, 13, 14, 15, 16, 17, 18, 19, 20, 21, 22, 23, 24, 25, 26, 27, 28, 29, 30, 31, 32, 33, 34, 35, 36, 37, 38, 39, 40, 41, 42, 43, 44, 45, 46, 47, 48, 49, 50, 51, 52, 53, 54, 55, 56, 57, 58, 59, 60, 61, 62, 63, 64, 65, 66, 67, 68, 69, 70, 71, 72, 73, 74, 75, 76, 77, 78, 79, 80, 81, 82, 83, 84, 85, 86, 87, 88, 89, 90, 91, 92, 93, 94, 95, 96, 97, 98, 99, 100, 101, 102, 103, 104, 105, 106, 107, 108, 109, 110, 111, 112, 113, 114, 115, 116, 117, 118, 119, 120, 121, 122, 123, 124, 125, 126, 127, 128, 129, 130, 131, 132, 133, 134, 135, 136, 137, 138, 139, 140, 141, 142, 143, 144, 145, 146, 147, 148, 149, 150, 151] c7_42))) [0, 4, 5, 6, 10, 12, 13, 14, 15, 16, 17, 18, 19, 20, 21, 22, 23, 24, 25, 26, 27, 28, 29, 30, 31, 32, 33, 34, 35, 36, 37, 38, 39, 40, 41, 42, 43, 44, 45, 46, 47, 48, 49, 50, 51, 52, 53, 54, 55, 56, 57, 58, 59, 60, 61, 62, 63, 64, 65, 66, 67, 68, 69, 70, 71, 72, 73, 74, 75, 76, 77, 78, 79, 80, 81, 82, 83, 84, 85, 86, 87, 88, 89, 90, 91, 92, 93, 94, 95, 96, 97, 98, 99, 100, 101, 102, 103, 104, 105, 106, 107, 108, 109, 110, 111, 112, 113, 114, 115, 116, 117, 118, 119, 120, 121, 122, 123, 124, 125, 126, 127, 128, 129, 130, 131, 132, 133, 134, 135, 136, 137, 138, 139, 140, 141, 142, 143, 144, 145, 146, 147, 148, 149, 150, 151]
def o7_44 : List (AOper × Option Nat) := [(⟨some 97, .load true [.int .i64, .int .i64] (.tmp 7), none⟩, none),
  (⟨some 98, .mv (.tmp 8), none⟩, none),
  (⟨some 99, .call false (.func 37) [.tmp 97, .tmp 98] [(false, [.slice])] true, none⟩, none),
  (⟨some 100, .load true [.int .i64, .int .i64] (.tmp 3), none⟩, none),
  (⟨some 101, .call false (.func 38) [.tmp 100, .tmp 9] [(false, [.slice])] true, none⟩, none),
  (⟨some 17, .mv (.tmp 99), none⟩, none),
  (⟨some 18, .mv (.tmp 101), none⟩, none)]
def o7_47 : List AOper := [⟨some 102, .mv (.tmp 17), none⟩,
  ⟨some 103, .len (.tmp 102), none⟩,
  ⟨some 104, .mv (.tmp 18), none⟩,
  ⟨some 105, .len (.tmp 104), none⟩,
  ⟨some 106, .bin .neq (.tmp 103) (.tmp 105), none⟩,
  ⟨some 107, .mv (.tmp 106), none⟩,
  ⟨some 108, .mv (.tmp 17), some (107, false)⟩,
  ⟨some 109, .len (.tmp 108), some (107, false)⟩,
  ⟨some 110, .fieldAddr 0 (.tmp 3), some (107, false)⟩,
  ⟨some 111, .load false [.int .i64] (.tmp 110), some (107, false)⟩,
  ⟨some 112, .bin .neq (.tmp 109) (.tmp 111), some (107, false)⟩,
  ⟨some 113, .pick (.tmp 107) (.const (.bool true)) (.tmp 112), none⟩]
def o7_50 : List AOper := [⟨some 6, .mv (.const (.bool false)), none⟩]
def o7_55 : List AOper := [⟨some 19, .mv (.const (.int .i64 0)), none⟩]
def o7_60 : List AOper := [⟨some 114, .mv (.tmp 19), none⟩,
  ⟨some 115, .mv (.tmp 17), none⟩,
  ⟨some 116, .len (.tmp 115), none⟩,
  ⟨some 117, .bin .lss (.tmp 114) (.tmp 116), none⟩]
def o7_67 : List (AOper × Option Nat) := [(⟨some 120, .mv (.tmp 17), none⟩, none),
  (⟨some 121, .mv (.tmp 19), none⟩, none),
  (⟨some 122, .indexAddr 3 (.tmp 120) (.tmp 121), none⟩, none),
  (⟨some 123, .load true [.int .u64, .int .u64, .int .u64] (.tmp 122), none⟩, none),
  (⟨some 124, .mv (.tmp 18), none⟩, none),
  (⟨some 125, .mv (.tmp 19), none⟩, none),
  (⟨some 126, .indexAddr 3 (.tmp 124) (.tmp 125), none⟩, none),
  (⟨some 127, .load true [.int .u64, .int .u64, .int .u64] (.tmp 126), none⟩, none),
  (⟨some 128, .eqAgg [.int .u64, .int .u64, .int .u64] true (.tmp 123) (.tmp 127), none⟩, none)]
def o7_70 : List AOper := [⟨some 6, .mv (.const (.bool false)), none⟩]
def o7_73 : List AOper := [⟨some 118, .mv (.tmp 19), none⟩,
  ⟨some 119, .bin .add (.tmp 118) (.const (.int .i64 1)), none⟩,
  ⟨some 19, .mv (.tmp 119), none⟩]
def c7_73 : ACode := .ops o7_73
def b7_57 : ACode := .post (.seq (.seq (.ops o7_60) (.cond (.tmp 117) (.skip) (.exit 2))) (.seq (.block 3 (.seq (.draw [] 0 o7_67 []) (.cond (.tmp 128) (.seq (.ops o7_70) (.ret)) (.skip)))) (.clear [0, 1, 3, 4, 5, 6, 8, 9, 10, 11, 12, 13, 14, 15, 16, 20, 21, 22, 23, 24, 25, 26, 27, 28, 29, 30, 31, 32, 33, 34, 35, 36, 37, 38, 39, 40, 41, 42, 43, 44, 45, 46, 47, 48, 49, 50, 51, 52, 53, 54, 55, 56, 57, 58, 59, 60, 61, 62, 63, 64, 65, 66, 67, 68, 69, 70, 71, 72, 73, 74, 75, 76, 77, 78, 79, 80, 81, 82, 83, 84, 85, 86, 87, 88, 89, 90, 91, 92, 93, 94, 95, 96, 97, 98, 99, 100, 101, 102, 103, 104, 105, 106, 107, 108, 109, 110, 111, 112, 113, 114, 115, 116, 117, 118, 119, 120, 121, 122, 123, 124, 125, 126, 127, 128, 129, 130, 131, 132, 133, 134, 135, 136, 137, 138, 139, 140, 141, 142, 143, 144, 145, 146, 147, 148, 149, 150, 151] c7_73))) [0, 1, 3, 4, 5, 6, 8, 9, 10, 11, 12, 13, 14, 15, 16, 20, 21, 22, 23, 24, 25, 26, 27, 28, 29, 30, 31, 32, 33, 34, 35, 36, 37, 38, 39, 40, 41, 42, 43, 44, 45, 46, 47, 48, 49, 50, 51, 52, 53, 54, 55, 56, 57, 58, 59, 60, 61, 62, 63, 64, 65, 66, 67, 68, 69, 70, 71, 72, 73, 74, 75, 76, 77, 78, 79, 80, 81, 82, 83, 84, 85, 86, 87, 88, 89, 90, 91, 92, 93, 94, 95, 96, 97, 98, 99, 100, 101, 102, 103, 104, 105, 106, 107, 108, 109, 110, 111, 112, 113, 114, 115, 116, 117, 118, 119, 120, 121, 122, 123, 124, 125, 126, 127, 128, 129, 130, 131, 132, 133, 134, 135, 136, 137, 138, 139, 140, 141, 142, 143, 144, 145, 146, 147, 148, 149, 150, 151]
def o7_75 : List (AOper × Option Nat) := [(⟨some 129, .mv (.tmp 2), none⟩, none),
  (⟨some 130, .conv .i64 (.tmp 129), none⟩, none),
  (⟨some 131, .load true [.int .i64, .int .i64] (.tmp 7), none⟩, none),
  (⟨some 132, .call true (.func 16) [.tmp 131] [(false, [.int .i64])] true, none⟩, none),
  (⟨some 133, .bin .eql (.tmp 130) (.tmp 132), none⟩, none),
  (⟨some 134, .mv (.tmp 133), none⟩, none),
  (⟨some 135, .load true [.int .i64, .int .i64] (.tmp 7), some (134, false)⟩, none),
  (⟨some 136, .mv (.tmp 2), some (134, false)⟩, none),
  (⟨some 137, .conv .i64 (.tmp 136), some (134, false)⟩, none),
  (⟨some 138, .call false (.func 24) [.tmp 137] [(false, [.ptr])] true, some (134, false)⟩, none),
  (⟨some 139, .call false (.func 37) [.tmp 135, .tmp 138] [(false, [.slice])] true, some (134, false)⟩, none),
  (⟨some 140, .len (.tmp 139), some (134, false)⟩, none),
  (⟨some 141, .bin .eql (.tmp 140) (.const (.int .i64 0)), some (134, false)⟩, none),
  (⟨some 142, .pick (.tmp 134) (.const (.bool true)) (.tmp 141), none⟩, none),
  (⟨some 143, .mv (.tmp 142), none⟩, none),
  (⟨some 144, .load true [.int .i64, .int .i64] (.tmp 7), some (143, true)⟩, none),
  (⟨some 145, .call false (.func 37) [.tmp 144, .const (.pointer none)] [(false, [.slice])] true, some (143, true)⟩, none),
  (⟨some 146, .len (.tmp 145), some (143, true)⟩, none),
  (⟨some 147, .bin .eql (.tmp 146) (.const (.int .i64 0)), some (143, true)⟩, none),
  (⟨some 148, .pick (.tmp 143) (.tmp 147) (.const (.bool false)), none⟩, none),
  (⟨some 149, .mv (.tmp 148), none⟩, none),
  (⟨some 150, .call true (.func 13) [] [(false, [.bool])] true, some (149, true)⟩, none),
  (⟨some 151, .pick (.tmp 149) (.tmp 150) (.const (.bool false)), none⟩, none),
  (⟨some 6, .mv (.tmp 151), none⟩, none)]
def c7_74 : ACode := .seq (.draw [] 0 o7_75 [(6, 9)]) (.ret)
def c7_43 : ACode := .seq (.draw [] 0 o7_44 [(3, 2)]) (.seq (.seq (.ops o7_47) (.cond (.tmp 113) (.seq (.ops o7_50) (.ret)) (.skip))) (.seq (.seq (.ops o7_55) (.block 2 (.clear [0, 1, 3, 4, 5, 6, 8, 9, 10, 11, 12, 13, 14, 15, 16, 20, 21, 22, 23, 24, 25, 26, 27, 28, 29, 30, 31, 32, 33, 34, 35, 36, 37, 38, 39, 40, 41, 42, 43, 44, 45, 46, 47, 48, 49, 50, 51, 52, 53, 54, 55, 56, 57, 58, 59, 60, 61, 62, 63, 64, 65, 66, 67, 68, 69, 70, 71, 72, 73, 74, 75, 76, 77, 78, 79, 80, 81, 82, 83, 84, 85, 86, 87, 88, 89, 90, 91, 92, 93, 94, 95, 96, 97, 98, 99, 100, 101, 102, 103, 104, 105, 106, 107, 108, 109, 110, 111, 112, 113, 114, 115, 116, 117, 118, 119, 120, 121, 122, 123, 124, 125, 126, 127, 128, 129, 130, 131, 132, 133, 134, 135, 136, 137, 138, 139, 140, 141, 142, 143, 144, 145, 146, 147, 148, 149, 150, 151] (.loop b7_57)))) (.clear [0, 1, 3, 4, 5, 6, 8, 9, 10, 11, 12, 13, 14, 15, 16, 17, 18, 19, 20, 21, 22, 23, 24, 25, 26, 27, 28, 29, 30, 31, 32, 33, 34, 35, 36, 37, 38, 39, 40, 41, 42, 43, 44, 45, 46, 47, 48, 49, 50, 51, 52, 53, 54, 55, 56, 57, 58, 59, 60, 61, 62, 63, 64, 65, 66, 67, 68, 69, 70, 71, 72, 73, 74, 75, 76, 77, 78, 79, 80, 81, 82, 83, 84, 85, 86, 87, 88, 89, 90, 91, 92, 93, 94, 95, 96, 97, 98, 99, 100, 101, 102, 103, 104, 105, 106, 107, 108, 109, 110, 111, 112, 113, 114, 115, 116, 117, 118, 119, 120, 121, 122, 123, 124, 125, 126, 127, 128, 129, 130, 131, 132, 133, 134, 135, 136, 137, 138, 139, 140, 141, 142, 143, 144, 145, 146, 147, 148, 149, 150, 151] c7_74)))
def c7_0 : ACode := .seq (.ops o7_1) (.seq (.seq (.ops o7_4) (.cond (.tmp 37) (.seq (.ops o7_7) (.ret)) (.skip))) (.seq (.ops o7_11) (.seq (.ops o7_13) (.seq (.ops o7_15) (.seq (.seq (.ops o7_18) (.block 0 (.clear [0, 4, 5, 6, 10, 12, 13, 14, 15, 16, 17, 18, 19, 20, 21, 22, 23, 24, 25, 26, 27, 28, 29, 30, 31, 32, 33, 34, 35, 36, 37, 38, 39, 40, 41, 42, 43, 44, 45, 46, 47, 48, 49, 50, 51, 52, 53, 54, 55, 56, 57, 58, 59, 60, 61, 62, 63, 64, 65, 66, 67, 68, 69, 70, 71, 72, 73, 74, 75, 76, 77, 78, 79, 80, 81, 82, 83, 84, 85, 86, 87, 88, 89, 90, 91, 92, 93, 94, 95, 96, 97, 98, 99, 100, 101, 102, 103, 104, 105, 106, 107, 108, 109, 110, 111, 112, 113, 114, 115, 116, 117, 118, 119, 120, 121, 122, 123, 124, 125, 126, 127, 128, 129, 130, 131, 132, 133, 134, 135, 136, 137, 138, 139, 140, 141, 142, 143, 144, 145, 146, 147, 148, 149, 150, 151] (.loop b7_20)))) (.clear [0, 1, 4, 5, 6, 10, 11, 12, 13, 14, 15, 16, 17, 18, 19, 20, 21, 22, 23, 24, 25, 26, 27, 28, 29, 30, 31, 32, 33, 34, 35, 36, 37, 38, 39, 40, 41, 42, 43, 44, 45, 46, 47, 48, 49, 50, 51, 52, 53, 54, 55, 56, 57, 58, 59, 60, 61, 62, 63, 64, 65, 66, 67, 68, 69, 70, 71, 72, 73, 74, 75, 76, 77, 78, 79, 80, 81, 82, 83, 84, 85, 86, 87, 88, 89, 90, 91, 92, 93, 94, 95, 96, 97, 98, 99, 100, 101, 102, 103, 104, 105, 106, 107, 108, 109, 110, 111, 112, 113, 114, 115, 116, 117, 118, 119, 120, 121, 122, 123, 124, 125, 126, 127, 128, 129, 130, 131, 132, 133, 134, 135, 136, 137, 138, 139, 140, 141, 142, 143, 144, 145, 146, 147, 148, 149, 150, 151] c7_43))))))
def a7 : AFun := ⟨152, [.tmp 6], c7_0⟩
/-! #### skylightlaw46.MortonBack -/
def o8_1 : List AOper := [⟨some 10, .mv (.const (.bool false)), none⟩]
def o8_3 : List AOper := [⟨some 17, .mv (.tmp 0), none⟩,
  ⟨some 18, .conv .i64 (.tmp 17), none⟩,
  ⟨some 19, .mv (.tmp 1), none⟩,
  ⟨some 20, .conv .i64 (.tmp 19), none⟩,
  ⟨some 21, .call true (.func 39) [.tmp 18, .tmp 20] [(false, [.int .i64])] true, none⟩,
  ⟨some 22, .mv (.tmp 2), none⟩,
  ⟨some 23, .conv .i64 (.tmp 22), none⟩,
  ⟨some 24, .mv (.tmp 3), none⟩,
  ⟨some 25, .conv .i64 (.tmp 24), none⟩,
  ⟨some 26, .call true (.func 39) [.tmp 23, .tmp 25] [(false, [.int .i64])] true, none⟩,
  ⟨some 11, .mv (.tmp 21), none⟩,
  ⟨some 12, .mv (.tmp 26), none⟩]
def o8_5 : List AOper := [⟨some 28, .mv (.tmp 11), none⟩,
  ⟨some 29, .call true (.func 40) [.tmp 28] [(false, [.int .i64]), (false, [.int .i64])] false, none⟩,
  ⟨some 27, .mv (.tmp 29), none⟩,
  ⟨some 30, .extract (.tmp 27) 0, none⟩,
  ⟨some 31, .extract (.tmp 27) 1, none⟩,
  ⟨some 13, .mv (.tmp 30), none⟩,
  ⟨some 14, .mv (.tmp 31), none⟩]
def o8_8 : List AOper := [⟨some 32, .mv (.tmp 13), none⟩,
  ⟨some 33, .mv (.tmp 0), none⟩,
  ⟨some 34, .conv .i64 (.tmp 33), none⟩,
  ⟨some 35, .bin .neq (.tmp 32) (.tmp 34), none⟩,
  ⟨some 36, .mv (.tmp 35), none⟩,
  ⟨some 37, .mv (.tmp 14), some (36, false)⟩,
  ⟨some 38, .mv (.tmp 1), some (36, false)⟩,
  ⟨some 39, .conv .i64 (.tmp 38), some (36, false)⟩,
  ⟨some 40, .bin .neq (.tmp 37) (.tmp 39), some (36, false)⟩,
  ⟨some 41, .pick (.tmp 36) (.const (.bool true)) (.tmp 40), none⟩,
  ⟨some 42, .mv (.tmp 41), none⟩,
  ⟨some 43, .mv (.tmp 11), some (42, false)⟩,
  ⟨some 44, .bin .lss (.tmp 43) (.const (.int .i64 0)), some (42, false)⟩,
  ⟨some 45, .pick (.tmp 42) (.const (.bool true)) (.tmp 44), none⟩,
  ⟨some 46, .mv (.tmp 45), none⟩,
  ⟨some 47, .mv (.tmp 11), some (46, false)⟩,
  ⟨some 48, .bin .geq (.tmp 47) (.const (.int .i64 4294967296)), some (46, false)⟩,
  ⟨some 49, .pick (.tmp 46) (.const (.bool true)) (.tmp 48), none⟩,
  ⟨some 50, .mv (.tmp 49), none⟩,
  ⟨some 51, .mv (.tmp 0), some (50, false)⟩,
  ⟨some 52, .mv (.tmp 2), some (50, false)⟩,
  ⟨some 53, .bin .leq (.tmp 51) (.tmp 52), some (50, false)⟩,
  ⟨some 54, .mv (.tmp 53), some (50, false)⟩,
  ⟨some 55, .mv (.tmp 1), some (54, true)⟩,
  ⟨some 56, .mv (.tmp 3), some (54, true)⟩,
  ⟨some 57, .bin .leq (.tmp 55) (.tmp 56), some (54, true)⟩,
  ⟨some 58, .pick (.tmp 54) (.tmp 57) (.const (.bool false)), some (50, false)⟩,
  ⟨some 59, .mv (.tmp 58), some (50, false)⟩,
  ⟨some 60, .mv (.tmp 11), some (59, true)⟩,
  ⟨some 61, .mv (.tmp 12), some (59, true)⟩,
  ⟨some 62, .bin .gtr (.tmp 60) (.tmp 61), some (59, true)⟩,
  ⟨some 63, .pick (.tmp 59) (.tmp 62) (.const (.bool false)), some (50, false)⟩,
  ⟨some 64, .pick (.tmp 50) (.const (.bool true)) (.tmp 63), none⟩,
  ⟨some 65, .mv (.tmp 64), none⟩,
  ⟨some 66, .mv (.tmp 11), some (65, false)⟩,
  ⟨some 67, .mv (.tmp 12), some (65, false)⟩,
  ⟨some 68, .bin .eql (.tmp 66) (.tmp 67), some (65, false)⟩,
  ⟨some 69, .mv (.tmp 0), some (65, false)⟩,
  ⟨some 70, .mv (.tmp 2), some (65, false)⟩,
  ⟨some 71, .bin .eql (.tmp 69) (.tmp 70), some (65, false)⟩,
  ⟨some 72, .mv (.tmp 71), some (65, false)⟩,
  ⟨some 73, .mv (.tmp 1), some (72, true)⟩,
  ⟨some 74, .mv (.tmp 3), some (72, true)⟩,
  ⟨some 75, .bin .eql (.tmp 73) (.tmp 74), some (72, true)⟩,
  ⟨some 76, .pick (.tmp 72) (.tmp 75) (.const (.bool false)), some (65, false)⟩,
  ⟨some 77, .binB true (.tmp 68) (.tmp 76), some (65, false)⟩,
  ⟨some 78, .pick (.tmp 65) (.const (.bool true)) (.tmp 77), none⟩]
def o8_11 : List AOper := [⟨some 10, .mv (.const (.bool false)), none⟩]
def o8_15 : List AOper := [⟨some 79, .mv (.tmp 4), none⟩,
  ⟨some 80, .conv .i64 (.tmp 79), none⟩,
  ⟨some 81, .bin .rem (.tmp 80) (.const (.int .i64 17)), none⟩,
  ⟨some 15, .mv (.tmp 81), none⟩]
def o8_17 : List (AOper × Option Nat) := [(⟨some 82, .mv (.tmp 0), none⟩, none),
  (⟨some 83, .mv (.tmp 15), none⟩, none),
  (⟨some 84, .bin .shr (.tmp 82) (.tmp 83), none⟩, none),
  (⟨some 85, .mv (.tmp 2), none⟩, none),
  (⟨some 86, .mv (.tmp 15), none⟩, none),
  (⟨some 87, .bin .shr (.tmp 85) (.tmp 86), none⟩, none),
  (⟨some 88, .bin .eql (.tmp 84) (.tmp 87), none⟩, none),
  (⟨some 89, .mv (.tmp 88), none⟩, none),
  (⟨some 90, .mv (.tmp 1), some (89, true)⟩, none),
  (⟨some 91, .mv (.tmp 15), some (89, true)⟩, none),
  (⟨some 92, .bin .shr (.tmp 90) (.tmp 91), some (89, true)⟩, none),
  (⟨some 93, .mv (.tmp 3), some (89, true)⟩, none),
  (⟨some 94, .mv (.tmp 15), some (89, true)⟩, none),
  (⟨some 95, .bin .shr (.tmp 93) (.tmp 94), some (89, true)⟩, none),
  (⟨some 96, .bin .eql (.tmp 92) (.tmp 95), some (89, true)⟩, none),
  (⟨some 97, .pick (.tmp 89) (.tmp 96) (.const (.bool false)), none⟩, none),
  (⟨some 16, .mv (.tmp 97), none⟩, none)]
def o8_19 : List (AOper × Option Nat) := [(⟨some 98, .mv (.tmp 11), none⟩, none),
  (⟨some 99, .mv (.tmp 15), none⟩, none),
  (⟨some 100, .call true (.func 41) [.tmp 98, .tmp 99] [(false, [.int .i64])] true, none⟩, none),
  (⟨some 101, .mv (.tmp 12), none⟩, none),
  (⟨some 102, .mv (.tmp 15), none⟩, none),
  (⟨some 103, .call true (.func 41) [.tmp 101, .tmp 102] [(false, [.int .i64])] true, none⟩, none),
  (⟨some 104, .bin .eql (.tmp 100) (.tmp 103), none⟩, none),
  (⟨some 105, .mv (.tmp 16), none⟩, none),
  (⟨some 106, .binB false (.tmp 104) (.tmp 105), none⟩, none),
  (⟨some 107, .mv (.tmp 106), none⟩, none),
  (⟨some 108, .mv (.tmp 11), some (107, true)⟩, none),
  (⟨some 109, .mv (.tmp 15), some (107, true)⟩, none),
  (⟨some 110, .call true (.func 41) [.tmp 108, .tmp 109] [(false, [.int .i64])] true, some (107, true)⟩, none),
  (⟨some 111, .mv (.tmp 11), some (107, true)⟩, none),
  (⟨some 112, .mv (.tmp 15), some (107, true)⟩, none),
  (⟨some 113, .bin .mul (.const (.int .i64 2)) (.tmp 112), some (107, true)⟩, none),
  (⟨some 114, .bin .shl (.const (.int .i64 1)) (.tmp 113), some (107, true)⟩, none),
  (⟨some 115, .bin .quo (.tmp 111) (.tmp 114), some (107, true)⟩, none),
  (⟨some 116, .bin .eql (.tmp 110) (.tmp 115), some (107, true)⟩, none),
  (⟨some 117, .pick (.tmp 107) (.tmp 116) (.const (.bool false)), none⟩, none),
  (⟨some 118, .mv (.tmp 117), none⟩, none),
  (⟨some 119, .call true (.func 42) [] [(false, [.bool])] true, some (118, true)⟩, none),
  (⟨some 120, .pick (.tmp 118) (.tmp 119) (.const (.bool false)), none⟩, none),
  (⟨some 10, .mv (.tmp 120), none⟩, none)]
def c8_0 : ACode := .seq (.ops o8_1) (.seq (.ops o8_3) (.seq (.ops o8_5) (.seq (.seq (.ops o8_8) (.cond (.tmp 78) (.seq (.ops o8_11) (.ret)) (.skip))) (.seq (.ops o8_15) (.seq (.draw [] 0 o8_17 []) (.seq (.draw [] 0 o8_19 []) (.ret)))))))
def a8 : AFun := ⟨121, [.tmp 10], c8_0⟩
/-! #### skylightlaw46.MortonTells -/
def o9_1 : List AOper := [⟨some 12, .mv (.const (.bool false)), none⟩]
def o9_4 : List AOper := [⟨some 21, .mv (.tmp 4), none⟩,
  ⟨some 22, .bin .geq (.tmp 21) (.const (.int .i64 1)), none⟩,
  ⟨some 23, .mv (.tmp 22), none⟩,
  ⟨some 24, .mv (.tmp 4), some (23, true)⟩,
  ⟨some 25, .bin .leq (.tmp 24) (.const (.int .i64 256)), some (23, true)⟩,
  ⟨some 26, .pick (.tmp 23) (.tmp 25) (.const (.bool false)), none⟩,
  ⟨some 27, .mv (.tmp 26), none⟩,
  ⟨some 28, .mv (.tmp 5), some (27, true)⟩,
  ⟨some 29, .bin .geq (.tmp 28) (.const (.int .i64 1)), some (27, true)⟩,
  ⟨some 30, .pick (.tmp 27) (.tmp 29) (.const (.bool false)), none⟩,
  ⟨some 31, .mv (.tmp 30), none⟩,
  ⟨some 32, .mv (.tmp 5), some (31, true)⟩,
  ⟨some 33, .bin .leq (.tmp 32) (.const (.int .i64 256)), some (31, true)⟩,
  ⟨some 34, .pick (.tmp 31) (.tmp 33) (.const (.bool false)), none⟩,
  ⟨some 35, .mv (.tmp 34), none⟩,
  ⟨some 36, .mv (.tmp 4), some (35, true)⟩,
  ⟨some 37, .bin .gtr (.tmp 36) (.const (.int .i64 12)), some (35, true)⟩,
  ⟨some 38, .mv (.tmp 37), some (35, true)⟩,
  ⟨some 39, .mv (.tmp 5), some (38, false)⟩,
  ⟨some 40, .bin .gtr (.tmp 39) (.const (.int .i64 12)), some (38, false)⟩,
  ⟨some 41, .pick (.tmp 38) (.const (.bool true)) (.tmp 40), some (35, true)⟩,
  ⟨some 42, .pick (.tmp 35) (.tmp 41) (.const (.bool false)), none⟩]
def o9_7 : List AOper := [⟨some 43, .call true (.func 42) [] [(false, [.bool])] true, none⟩,
  ⟨some 12, .mv (.tmp 43), none⟩]
def o9_11 : List AOper := [⟨some 45, .mv (.tmp 2), none⟩,
  ⟨some 46, .call true (.func 40) [.tmp 45] [(false, [.int .i64]), (false, [.int .i64])] false, none⟩,
  ⟨some 44, .mv (.tmp 46), none⟩,
  ⟨some 47, .extract (.tmp 44) 0, none⟩,
  ⟨some 48, .extract (.tmp 44) 1, none⟩,
  ⟨some 13, .mv (.tmp 47), none⟩,
  ⟨some 14, .mv (.tmp 48), none⟩]
def o9_13 : List AOper := [⟨some 50, .mv (.tmp 2), none⟩,
  ⟨some 51, .call true (.func 43) [.tmp 50] [(false, [.int .i64]), (false, [.int .i64])] false, none⟩,
  ⟨some 49, .mv (.tmp 51), none⟩,
  ⟨some 52, .extract (.tmp 49) 0, none⟩,
  ⟨some 53, .extract (.tmp 49) 1, none⟩,
  ⟨some 15, .mv (.tmp 52), none⟩,
  ⟨some 16, .mv (.tmp 53), none⟩]
def o9_15 : List AOper := [⟨some 54, .mv (.tmp 4), none⟩,
  ⟨some 55, .mv (.tmp 5), none⟩,
  ⟨some 56, .call false (.func 44) [.tmp 54, .tmp 55] [(false, [.slice])] true, none⟩,
  ⟨some 57, .mv (.tmp 4), none⟩,
  ⟨some 58, .mv (.tmp 5), none⟩,
  ⟨some 59, .call false (.func 45) [.tmp 57, .tmp 58] [(false, [.slice])] true, none⟩,
  ⟨some 60, .mv (.tmp 4), none⟩,
  ⟨some 61, .mv (.tmp 5), none⟩,
  ⟨some 62, .call false (.func 46) [.tmp 60, .tmp 61] [(false, [.slice])] true, none⟩,
  ⟨some 17, .mv (.tmp 56), none⟩,
  ⟨some 18, .mv (.tmp 59), none⟩,
  ⟨some 19, .mv (.tmp 62), none⟩]
def o9_18 : List AOper := [⟨some 63, .mv (.tmp 17), none⟩,
  ⟨some 64, .len (.tmp 63), none⟩,
  ⟨some 65, .mv (.tmp 18), none⟩,
  ⟨some 66, .len (.tmp 65), none⟩,
  ⟨some 67, .bin .neq (.tmp 64) (.tmp 66), none⟩,
  ⟨some 68, .mv (.tmp 67), none⟩,
  ⟨some 69, .mv (.tmp 19), some (68, false)⟩,
  ⟨some 70, .len (.tmp 69), some (68, false)⟩,
  ⟨some 71, .mv (.tmp 18), some (68, false)⟩,
  ⟨some 72, .len (.tmp 71), some (68, false)⟩,
  ⟨some 73, .bin .neq (.tmp 70) (.tmp 72), some (68, false)⟩,
  ⟨some 74, .pick (.tmp 68) (.const (.bool true)) (.tmp 73), none⟩]
def o9_21 : List AOper := [⟨some 12, .mv (.const (.bool false)), none⟩]
def o9_26 : List AOper := [⟨some 20, .mv (.const (.int .i64 0)), none⟩]
def o9_31 : List AOper := [⟨some 75, .mv (.tmp 20), none⟩,
  ⟨some 76, .mv (.tmp 17), none⟩,
  ⟨some 77, .len (.tmp 76), none⟩,
  ⟨some 78, .bin .lss (.tmp 75) (.tmp 77), none⟩]
def o9_38 : List (AOper × Option Nat) := [(⟨some 81, .mv (.tmp 17), none⟩, none),
  (⟨some 82, .mv (.tmp 20), none⟩, none),
  (⟨some 83, .indexAddr 2 (.tmp 81) (.tmp 82), none⟩, none),
  (⟨some 84, .load true [.int .i64, .int .i64] (.tmp 83), none⟩, none),
  (⟨some 85, .mv (.tmp 18), none⟩, none),
  (⟨some 86, .mv (.tmp 20), none⟩, none),
  (⟨some 87, .indexAddr 2 (.tmp 85) (.tmp 86), none⟩, none),
  (⟨some 88, .load true [.int .i64, .int .i64] (.tmp 87), none⟩, none),
  (⟨some 89, .eqAgg [.int .i64, .int .i64] true (.tmp 84) (.tmp 88), none⟩, none),
  (⟨some 90, .mv (.tmp 89), none⟩, none),
  (⟨some 91, .mv (.tmp 19), some (90, false)⟩, none),
  (⟨some 92, .mv (.tmp 20), some (90, false)⟩, none),
  (⟨some 93, .indexAddr 1 (.tmp 91) (.tmp 92), some (90, false)⟩, none),
  (⟨some 94, .load false [.int .i64] (.tmp 93), some (90, false)⟩, none),
  (⟨some 95, .mv (.tmp 17), some (90, false)⟩, none),
  (⟨some 96, .mv (.tmp 20), some (90, false)⟩, none),
  (⟨some 97, .indexAddr 2 (.tmp 95) (.tmp 96), some (90, false)⟩, none),
  (⟨some 98, .indexArr 2 1 (.tmp 97) (.const (.int .i64 1)), some (90, false)⟩, none),
  (⟨some 99, .load false [.int .i64] (.tmp 98), some (90, false)⟩, none),
  (⟨some 100, .mv (.tmp 4), some (90, false)⟩, none),
  (⟨some 101, .bin .mul (.tmp 99) (.tmp 100), some (90, false)⟩, none),
  (⟨some 102, .mv (.tmp 17), some (90, false)⟩, none),
  (⟨some 103, .mv (.tmp 20), some (90, false)⟩, none),
  (⟨some 104, .indexAddr 2 (.tmp 102) (.tmp 103), some (90, false)⟩, none),
  (⟨some 105, .indexArr 2 1 (.tmp 104) (.const (.int .i64 0)), some (90, false)⟩, none),
  (⟨some 106, .load false [.int .i64] (.tmp 105), some (90, false)⟩, none),
  (⟨some 107, .bin .add (.tmp 101) (.tmp 106), some (90, false)⟩, none),
  (⟨some 108, .bin .neq (.tmp 94) (.tmp 107), some (90, false)⟩, none),
  (⟨some 109, .pick (.tmp 90) (.const (.bool true)) (.tmp 108), none⟩, none)]
def o9_41 : List AOper := [⟨some 12, .mv (.const (.bool false)), none⟩]
def o9_44 : List AOper := [⟨some 79, .mv (.tmp 20), none⟩,
  ⟨some 80, .bin .add (.tmp 79) (.const (.int .i64 1)), none⟩,
  ⟨some 20, .mv (.tmp 80), none⟩]
def c9_44 : ACode := .ops o9_44
def b9_28 : ACode := .post (.seq (.seq (.ops o9_31) (.cond (.tmp 78) (.skip) (.exit 0))) (.seq (.block 1 (.seq (.draw [] 0 o9_38 []) (.cond (.tmp 109) (.seq (.ops o9_41) (.ret)) (.skip)))) (.clear [5, 6, 7, 8, 9, 10, 11, 12, 21, 22, 23, 24, 25, 26, 27, 28, 29, 30, 31, 32, 33, 34, 35, 36, 37, 38, 39, 40, 41, 42, 43, 44, 45, 46, 47, 48, 49, 50, 51, 52, 53, 54, 55, 56, 57, 58, 59, 60, 61, 62, 63, 64, 65, 66, 67, 68, 69, 70, 71, 72, 73, 74, 75, 76, 77, 78, 79, 80, 81, 82, 83, 84, 85, 86, 87, 88, 89, 90, 91, 92, 93, 94, 95, 96, 97, 98, 99, 100, 101, 102, 103, 104, 105, 106, 107, 108, 109, 110, 111, 112, 113, 114, 115, 116, 117, 118, 119, 120, 121, 122, 123, 124, 125, 126, 127, 128, 129, 130, 131, 132, 133, 134, 135, 136, 137, 138] c9_44))) [5, 6, 7, 8, 9, 10, 11, 12, 21, 22, 23, 24, 25, 26, 27, 28, 29, 30, 31, 32, 33, 34, 35, 36, 37, 38, 39, 40, 41, 42, 43, 44, 45, 46, 47, 48, 49, 50, 51, 52, 53, 54, 55, 56, 57, 58, 59, 60, 61, 62, 63, 64, 65, 66, 67, 68, 69, 70, 71, 72, 73, 74, 75, 76, 77, 78, 79, 80, 81, 82, 83, 84, 85, 86, 87, 88, 89, 90, 91, 92, 93, 94, 95, 96, 97, 98, 99, 100, 101, 102, 103, 104, 105, 106, 107, 108, 109, 110, 111, 112, 113, 114, 115, 116, 117, 118, 119, 120, 121, 122, 123, 124, 125, 126, 127, 128, 129, 130, 131, 132, 133, 134, 135, 136, 137, 138]
def o9_46 : List AOper := [⟨some 110, .mv (.tmp 0), none⟩,
  ⟨some 111, .mv (.tmp 1), none⟩,
  ⟨some 112, .call true (.func 39) [.tmp 110, .tmp 111] [(false, [.int .i64])] true, none⟩,
  ⟨some 113, .mv (.tmp 0), none⟩,
  ⟨some 114, .mv (.tmp 1), none⟩,
  ⟨some 115, .call true (.func 47) [.tmp 113, .tmp 114] [(false, [.int .i64])] true, none⟩,
  ⟨some 116, .bin .eql (.tmp 112) (.tmp 115), none⟩,
  ⟨some 117, .mv (.tmp 116), none⟩,
  ⟨some 118, .mv (.tmp 13), some (117, true)⟩,
  ⟨some 119, .mv (.tmp 15), some (117, true)⟩,
  ⟨some 120, .bin .eql (.tmp 118) (.tmp 119), some (117, true)⟩,
  ⟨some 121, .pick (.tmp 117) (.tmp 120) (.const (.bool false)), none⟩,
  ⟨some 122, .mv (.tmp 121), none⟩,
  ⟨some 123, .mv (.tmp 14), some (122, true)⟩,
  ⟨some 124, .mv (.tmp 16), some (122, true)⟩,
  ⟨some 125, .bin .eql (.tmp 123) (.tmp 124), some (122, true)⟩,
  ⟨some 126, .pick (.tmp 122) (.tmp 125) (.const (.bool false)), none⟩,
  ⟨some 127, .mv (.tmp 126), none⟩,
  ⟨some 128, .mv (.tmp 2), some (127, true)⟩,
  ⟨some 129, .mv (.tmp 3), some (127, true)⟩,
  ⟨some 130, .call true (.func 41) [.tmp 128, .tmp 129] [(false, [.int .i64])] true, some (127, true)⟩,
  ⟨some 131, .mv (.tmp 2), some (127, true)⟩,
  ⟨some 132, .mv (.tmp 3), some (127, true)⟩,
  ⟨some 133, .call true (.func 48) [.tmp 131, .tmp 132] [(false, [.int .i64])] true, some (127, true)⟩,
  ⟨some 134, .bin .eql (.tmp 130) (.tmp 133), some (127, true)⟩,
  ⟨some 135, .pick (.tmp 127) (.tmp 134) (.const (.bool false)), none⟩,
  ⟨some 136, .mv (.tmp 135), none⟩,
  ⟨some 137, .call true (.func 42) [] [(false, [.bool])] true, some (136, true)⟩,
  ⟨some 138, .pick (.tmp 136) (.tmp 137) (.const (.bool false)), none⟩,
  ⟨some 12, .mv (.tmp 138), none⟩]
def c9_45 : ACode := .seq (.ops o9_46) (.ret)
def c9_0 : ACode := .seq (.ops o9_1) (.seq (.seq (.ops o9_4) (.cond (.tmp 42) (.seq (.ops o9_7) (.ret)) (.skip))) (.seq (.ops o9_11) (.seq (.ops o9_13) (.seq (.ops o9_15) (.seq (.seq (.ops o9_18) (.cond (.tmp 74) (.seq (.ops o9_21) (.ret)) (.skip))) (.seq (.seq (.ops o9_26) (.block 0 (.clear [5, 6, 7, 8, 9, 10, 11, 12, 21, 22, 23, 24, 25, 26, 27, 28, 29, 30, 31, 32, 33, 34, 35, 36, 37, 38, 39, 40, 41, 42, 43, 44, 45, 46, 47, 48, 49, 50, 51, 52, 53, 54, 55, 56, 57, 58, 59, 60, 61, 62, 63, 64, 65, 66, 67, 68, 69, 70, 71, 72, 73, 74, 75, 76, 77, 78, 79, 80, 81, 82, 83, 84, 85, 86, 87, 88, 89, 90, 91, 92, 93, 94, 95, 96, 97, 98, 99, 100, 101, 102, 103, 104, 105, 106, 107, 108, 109, 110, 111, 112, 113, 114, 115, 116, 117, 118, 119, 120, 121, 122, 123, 124, 125, 126, 127, 128, 129, 130, 131, 132, 133, 134, 135, 136, 137, 138] (.loop b9_28)))) (.clear [4, 5, 6, 7, 8, 9, 10, 11, 12, 17, 18, 19, 20, 21, 22, 23, 24, 25, 26, 27, 28, 29, 30, 31, 32, 33, 34, 35, 36, 37, 38, 39, 40, 41, 42, 43, 44, 45, 46, 47, 48, 49, 50, 51, 52, 53, 54, 55, 56, 57, 58, 59, 60, 61, 62, 63, 64, 65, 66, 67, 68, 69, 70, 71, 72, 73, 74, 75, 76, 77, 78, 79, 80, 81, 82, 83, 84, 85, 86, 87, 88, 89, 90, 91, 92, 93, 94, 95, 96, 97, 98, 99, 100, 101, 102, 103, 104, 105, 106, 107, 108, 109, 110, 111, 112, 113, 114, 115, 116, 117, 118, 119, 120, 121, 122, 123, 124, 125, 126, 127, 128, 129, 130, 131, 132, 133, 134, 135, 136, 137, 138] c9_45)))))))
def a9 : AFun := ⟨139, [.tmp 12], c9_0⟩
/-! #### skylightlaw46.MortonOnce -/
def o10_1 : List AOper := [⟨some 4, .mv (.const (.bool false)), none⟩]
def o10_3 : List AOper := [⟨some 14, .mv (.tmp 0), none⟩,
  ⟨some 15, .conv .i64 (.tmp 14), none⟩,
  ⟨some 16, .bin .rem (.tmp 15) (.const (.int .i64 16)), none⟩,
  ⟨some 17, .bin .add (.const (.int .i64 1)) (.tmp 16), none⟩,
  ⟨some 18, .mv (.tmp 1), none⟩,
  ⟨some 19, .conv .i64 (.tmp 18), none⟩,
  ⟨some 20, .bin .rem (.tmp 19) (.const (.int .i64 16)), none⟩,
  ⟨some 21, .bin .add (.const (.int .i64 1)) (.tmp 20), none⟩,
  ⟨some 5, .mv (.tmp 17), none⟩,
  ⟨some 6, .mv (.tmp 21), none⟩]
def o10_5 : List AOper := [⟨some 22, .mv (.tmp 5), none⟩,
  ⟨some 23, .mv (.tmp 6), none⟩,
  ⟨some 24, .call false (.func 44) [.tmp 22, .tmp 23] [(false, [.slice])] true, none⟩,
  ⟨some 25, .mv (.tmp 5), none⟩,
  ⟨some 26, .mv (.tmp 6), none⟩,
  ⟨some 27, .call false (.func 46) [.tmp 25, .tmp 26] [(false, [.slice])] true, none⟩,
  ⟨some 7, .mv (.tmp 24), none⟩,
  ⟨some 8, .mv (.tmp 27), none⟩]
def o10_8 : List AOper := [⟨some 28, .mv (.tmp 7), none⟩,
  ⟨some 29, .len (.tmp 28), none⟩,
  ⟨some 30, .mv (.tmp 5), none⟩,
  ⟨some 31, .mv (.tmp 6), none⟩,
  ⟨some 32, .bin .mul (.tmp 30) (.tmp 31), none⟩,
  ⟨some 33, .bin .neq (.tmp 29) (.tmp 32), none⟩,
  ⟨some 34, .mv (.tmp 33), none⟩,
  ⟨some 35, .mv (.tmp 8), some (34, false)⟩,
  ⟨some 36, .len (.tmp 35), some (34, false)⟩,
  ⟨some 37, .mv (.tmp 5), some (34, false)⟩,
  ⟨some 38, .mv (.tmp 6), some (34, false)⟩,
  ⟨some 39, .bin .mul (.tmp 37) (.tmp 38), some (34, false)⟩,
  ⟨some 40, .bin .neq (.tmp 36) (.tmp 39), some (34, false)⟩,
  ⟨some 41, .pick (.tmp 34) (.const (.bool true)) (.tmp 40), none⟩]
def o10_11 : List AOper := [⟨some 4, .mv (.const (.bool false)), none⟩]
def o10_15 : List AOper := [⟨some 42, .mv (.tmp 5), none⟩,
  ⟨some 43, .mv (.tmp 6), none⟩,
  ⟨some 44, .bin .mul (.tmp 42) (.tmp 43), none⟩,
  ⟨some 45, .makeSlice 1 8 [.int .i64 0] (.tmp 44) (.tmp 44), none⟩,
  ⟨some 9, .mv (.tmp 45), none⟩]
def o10_18 : List AOper := [⟨some 10, .mv (.const (.int .i64 0)), none⟩]
def o10_23 : List AOper := [⟨some 46, .mv (.tmp 10), none⟩,
  ⟨some 47, .mv (.tmp 7), none⟩,
  ⟨some 48, .len (.tmp 47), none⟩,
  ⟨some 49, .bin .lss (.tmp 46) (.tmp 48), none⟩]
def o10_30 : List (AOper × Option Nat) := [(⟨some 52, .mv (.tmp 7), none⟩, none),
  (⟨some 53, .mv (.tmp 10), none⟩, none),
  (⟨some 54, .indexAddr 2 (.tmp 52) (.tmp 53), none⟩, none),
  (⟨some 55, .indexArr 2 1 (.tmp 54) (.const (.int .i64 0)), none⟩, none),
  (⟨some 56, .load false [.int .i64] (.tmp 55), none⟩, none),
  (⟨some 57, .mv (.tmp 7), none⟩, none),
  (⟨some 58, .mv (.tmp 10), none⟩, none),
  (⟨some 59, .indexAddr 2 (.tmp 57) (.tmp 58), none⟩, none),
  (⟨some 60, .indexArr 2 1 (.tmp 59) (.const (.int .i64 1)), none⟩, none),
  (⟨some 61, .load false [.int .i64] (.tmp 60), none⟩, none),
  (⟨some 11, .mv (.tmp 56), none⟩, none),
  (⟨some 12, .mv (.tmp 61), none⟩, none)]
def o10_33 : List (AOper × Option Nat) := [(⟨some 62, .mv (.tmp 11), none⟩, none),
  (⟨some 63, .bin .lss (.tmp 62) (.const (.int .i64 0)), none⟩, none),
  (⟨some 64, .mv (.tmp 63), none⟩, none),
  (⟨some 65, .mv (.tmp 11), some (64, false)⟩, none),
  (⟨some 66, .mv (.tmp 5), some (64, false)⟩, none),
  (⟨some 67, .bin .geq (.tmp 65) (.tmp 66), some (64, false)⟩, none),
  (⟨some 68, .pick (.tmp 64) (.const (.bool true)) (.tmp 67), none⟩, none),
  (⟨some 69, .mv (.tmp 68), none⟩, none),
  (⟨some 70, .mv (.tmp 12), some (69, false)⟩, none),
  (⟨some 71, .bin .lss (.tmp 70) (.const (.int .i64 0)), some (69, false)⟩, none),
  (⟨some 72, .pick (.tmp 69) (.const (.bool true)) (.tmp 71), none⟩, none),
  (⟨some 73, .mv (.tmp 72), none⟩, none),
  (⟨some 74, .mv (.tmp 12), some (73, false)⟩, none),
  (⟨some 75, .mv (.tmp 6), some (73, false)⟩, none),
  (⟨some 76, .bin .geq (.tmp 74) (.tmp 75), some (73, false)⟩, none),
  (⟨some 77, .pick (.tmp 73) (.const (.bool true)) (.tmp 76), none⟩, none),
  (⟨some 78, .mv (.tmp 77), none⟩, none),
  (⟨some 79, .mv (.tmp 8), some (78, false)⟩, none),
  (⟨some 80, .mv (.tmp 10), some (78, false)⟩, none),
  (⟨some 81, .indexAddr 1 (.tmp 79) (.tmp 80), some (78, false)⟩, none),
  (⟨some 82, .load false [.int .i64] (.tmp 81), some (78, false)⟩, none),
  (⟨some 83, .mv (.tmp 12), some (78, false)⟩, none),
  (⟨some 84, .mv (.tmp 5), some (78, false)⟩, none),
  (⟨some 85, .bin .mul (.tmp 83) (.tmp 84), some (78, false)⟩, none),
  (⟨some 86, .mv (.tmp 11), some (78, false)⟩, none),
  (⟨some 87, .bin .add (.tmp 85) (.tmp 86), some (78, false)⟩, none),
  (⟨some 88, .bin .neq (.tmp 82) (.tmp 87), some (78, false)⟩, none),
  (⟨some 89, .pick (.tmp 78) (.const (.bool true)) (.tmp 88), none⟩, none),
  (⟨some 90, .mv (.tmp 89), none⟩, none),
  (⟨some 91, .mv (.tmp 10), some (90, false)⟩, none),
  (⟨some 92, .bin .gtr (.tmp 91) (.const (.int .i64 0)), some (90, false)⟩, none),
  (⟨some 93, .mv (.tmp 92), some (90, false)⟩, none),
  (⟨some 94, .mv (.tmp 7), some (93, true)⟩, none),
  (⟨some 95, .mv (.tmp 10), some (93, true)⟩, none),
  (⟨some 96, .bin .sub (.tmp 95) (.const (.int .i64 1)), some (93, true)⟩, none),
  (⟨some 97, .indexAddr 2 (.tmp 94) (.tmp 96), some (93, true)⟩, none),
  (⟨some 98, .indexArr 2 1 (.tmp 97) (.const (.int .i64 0)), some (93, true)⟩, none),
  (⟨some 99, .load false [.int .i64] (.tmp 98), some (93, true)⟩, none),
  (⟨some 100, .mv (.tmp 7), some (93, true)⟩, none),
  (⟨some 101, .mv (.tmp 10), some (93, true)⟩, none),
  (⟨some 102, .bin .sub (.tmp 101) (.const (.int .i64 1)), some (93, true)⟩, none),
  (⟨some 103, .indexAddr 2 (.tmp 100) (.tmp 102), some (93, true)⟩, none),
  (⟨some 104, .indexArr 2 1 (.tmp 103) (.const (.int .i64 1)), some (93, true)⟩, none),
  (⟨some 105, .load false [.int .i64] (.tmp 104), some (93, true)⟩, none),
  (⟨some 106, .call true (.func 39) [.tmp 99, .tmp 105] [(false, [.int .i64])] true, some (93, true)⟩, none),
  (⟨some 107, .mv (.tmp 11), some (93, true)⟩, none),
  (⟨some 108, .mv (.tmp 12), some (93, true)⟩, none),
  (⟨some 109, .call true (.func 39) [.tmp 107, .tmp 108] [(false, [.int .i64])] true, some (93, true)⟩, none),
  (⟨some 110, .bin .geq (.tmp 106) (.tmp 109), some (93, true)⟩, none),
  (⟨some 111, .pick (.tmp 93) (.tmp 110) (.const (.bool false)), some (90, false)⟩, none),
  (⟨some 112, .pick (.tmp 90) (.const (.bool true)) (.tmp 111), none⟩, none)]
def o10_36 : List AOper := [⟨some 4, .mv (.const (.bool false)), none⟩]
def o10_39 : List AOper := [⟨some 113, .mv (.tmp 9), none⟩,
  ⟨some 114, .mv (.tmp 8), none⟩,
  ⟨some 115, .mv (.tmp 10), none⟩,
  ⟨some 116, .indexAddr 1 (.tmp 114) (.tmp 115), none⟩,
  ⟨some 117, .load false [.int .i64] (.tmp 116), none⟩,
  ⟨some 118, .indexAddr 1 (.tmp 113) (.tmp 117), none⟩,
  ⟨some 119, .load false [.int .i64] (.tmp 118), none⟩,
  ⟨some 120, .bin .add (.tmp 119) (.const (.int .i64 1)), none⟩,
  ⟨some 121, .indexAddr 1 (.tmp 113) (.tmp 117), none⟩,
  ⟨none, .store 1 (.tmp 121) (.tmp 120), none⟩]
def o10_40 : List AOper := [⟨some 50, .mv (.tmp 10), none⟩,
  ⟨some 51, .bin .add (.tmp 50) (.const (.int .i64 1)), none⟩,
  ⟨some 10, .mv (.tmp 51), none⟩]
def c10_40 : ACode := .ops o10_40
def b10_20 : ACode := .post (.seq (.seq (.ops o10_23) (.cond (.tmp 49) (.skip) (.exit 0))) (.seq (.block 1 (.seq (.draw [] 0 o10_30 []) (.seq (.seq (.draw [] 0 o10_33 []) (.cond (.tmp 112) (.seq (.ops o10_36) (.ret)) (.skip))) (.ops o10_39)))) (.clear [0, 1, 2, 3, 4, 11, 12, 13, 14, 15, 16, 17, 18, 19, 20, 21, 22, 23, 24, 25, 26, 27, 28, 29, 30, 31, 32, 33, 34, 35, 36, 37, 38, 39, 40, 41, 42, 43, 44, 45, 46, 47, 48, 49, 50, 51, 52, 53, 54, 55, 56, 57, 58, 59, 60, 61, 62, 63, 64, 65, 66, 67, 68, 69, 70, 71, 72, 73, 74, 75, 76, 77, 78, 79, 80, 81, 82, 83, 84, 85, 86, 87, 88, 89, 90, 91, 92, 93, 94, 95, 96, 97, 98, 99, 100, 101, 102, 103, 104, 105, 106, 107, 108, 109, 110, 111, 112, 113, 114, 115, 116, 117, 118, 119, 120, 121, 122, 123, 124, 125, 126, 127, 128, 129, 130, 131, 132, 133] c10_40))) [0, 1, 2, 3, 4, 11, 12, 13, 14, 15, 16, 17, 18, 19, 20, 21, 22, 23, 24, 25, 26, 27, 28, 29, 30, 31, 32, 33, 34, 35, 36, 37, 38, 39, 40, 41, 42, 43, 44, 45, 46, 47, 48, 49, 50, 51, 52, 53, 54, 55, 56, 57, 58, 59, 60, 61, 62, 63, 64, 65, 66, 67, 68, 69, 70, 71, 72, 73, 74, 75, 76, 77, 78, 79, 80, 81, 82, 83, 84, 85, 86, 87, 88, 89, 90, 91, 92, 93, 94, 95, 96, 97, 98, 99, 100, 101, 102, 103, 104, 105, 106, 107, 108, 109, 110, 111, 112, 113, 114, 115, 116, 117, 118, 119, 120, 121, 122, 123, 124, 125, 126, 127, 128, 129, 130, 131, 132, 133]
def o10_43 : List AOper := [⟨some 13, .mv (.const (.int .i64 0)), none⟩]
def o10_48 : List AOper := [⟨some 122, .mv (.tmp 13), none⟩,
  ⟨some 123, .mv (.tmp 9), none⟩,
  ⟨some 124, .len (.tmp 123), none⟩,
  ⟨some 125, .bin .lss (.tmp 122) (.tmp 124), none⟩]
def o10_55 : List AOper := [⟨some 128, .mv (.tmp 9), none⟩,
  ⟨some 129, .mv (.tmp 13), none⟩,
  ⟨some 130, .indexAddr 1 (.tmp 128) (.tmp 129), none⟩,
  ⟨some 131, .load false [.int .i64] (.tmp 130), none⟩,
  ⟨some 132, .bin .neq (.tmp 131) (.const (.int .i64 1)), none⟩]
def o10_58 : List AOper := [⟨some 4, .mv (.const (.bool false)), none⟩]
def o10_61 : List AOper := [⟨some 126, .mv (.tmp 13), none⟩,
  ⟨some 127, .bin .add (.tmp 126) (.const (.int .i64 1)), none⟩,
  ⟨some 13, .mv (.tmp 127), none⟩]
def c10_61 : ACode := .ops o10_61
def b10_45 : ACode := .post (.seq (.seq (.ops o10_48) (.cond (.tmp 125) (.skip) (.exit 2))) (.seq (.block 3 (.seq (.ops o10_55) (.cond (.tmp 132) (.seq (.ops o10_58) (.ret)) (.skip)))) (.clear [0, 1, 2, 3, 4, 5, 6, 7, 8, 10, 11, 12, 14, 15, 16, 17, 18, 19, 20, 21, 22, 23, 24, 25, 26, 27, 28, 29, 30, 31, 32, 33, 34, 35, 36, 37, 38, 39, 40, 41, 42, 43, 44, 45, 46, 47, 48, 49, 50, 51, 52, 53, 54, 55, 56, 57, 58, 59, 60, 61, 62, 63, 64, 65, 66, 67, 68, 69, 70, 71, 72, 73, 74, 75, 76, 77, 78, 79, 80, 81, 82, 83, 84, 85, 86, 87, 88, 89, 90, 91, 92, 93, 94, 95, 96, 97, 98, 99, 100, 101, 102, 103, 104, 105, 106, 107, 108, 109, 110, 111, 112, 113, 114, 115, 116, 117, 118, 119, 120, 121, 122, 123, 124, 125, 126, 127, 128, 129, 130, 131, 132, 133] c10_61))) [0, 1, 2, 3, 4, 5, 6, 7, 8, 10, 11, 12, 14, 15, 16, 17, 18, 19, 20, 21, 22, 23, 24, 25, 26, 27, 28, 29, 30, 31, 32, 33, 34, 35, 36, 37, 38, 39, 40, 41, 42, 43, 44, 45, 46, 47, 48, 49, 50, 51, 52, 53, 54, 55, 56, 57, 58, 59, 60, 61, 62, 63, 64, 65, 66, 67, 68, 69, 70, 71, 72, 73, 74, 75, 76, 77, 78, 79, 80, 81, 82, 83, 84, 85, 86, 87, 88, 89, 90, 91, 92, 93, 94, 95, 96, 97, 98, 99, 100, 101, 102, 103, 104, 105, 106, 107, 108, 109, 110, 111, 112, 113, 114, 115, 116, 117, 118, 119, 120, 121, 122, 123, 124, 125, 126, 127, 128, 129, 130, 131, 132, 133]
def o10_63 : List AOper := [⟨some 133, .call true (.func 42) [] [(false, [.bool])] true, none⟩,
  ⟨some 4, .mv (.tmp 133), none⟩]
def c10_62 : ACode := .seq (.ops o10_63) (.ret)
def c10_41 : ACode := .seq (.seq (.ops o10_43) (.block 2 (.clear [0, 1, 2, 3, 4, 5, 6, 7, 8, 10, 11, 12, 14, 15, 16, 17, 18, 19, 20, 21, 22, 23, 24, 25, 26, 27, 28, 29, 30, 31, 32, 33, 34, 35, 36, 37, 38, 39, 40, 41, 42, 43, 44, 45, 46, 47, 48, 49, 50, 51, 52, 53, 54, 55, 56, 57, 58, 59, 60, 61, 62, 63, 64, 65, 66, 67, 68, 69, 70, 71, 72, 73, 74, 75, 76, 77, 78, 79, 80, 81, 82, 83, 84, 85, 86, 87, 88, 89, 90, 91, 92, 93, 94, 95, 96, 97, 98, 99, 100, 101, 102, 103, 104, 105, 106, 107, 108, 109, 110, 111, 112, 113, 114, 115, 116, 117, 118, 119, 120, 121, 122, 123, 124, 125, 126, 127, 128, 129, 130, 131, 132, 133] (.loop b10_45)))) (.clear [0, 1, 2, 3, 4, 5, 6, 7, 8, 9, 10, 11, 12, 13, 14, 15, 16, 17, 18, 19, 20, 21, 22, 23, 24, 25, 26, 27, 28, 29, 30, 31, 32, 33, 34, 35, 36, 37, 38, 39, 40, 41, 42, 43, 44, 45, 46, 47, 48, 49, 50, 51, 52, 53, 54, 55, 56, 57, 58, 59, 60, 61, 62, 63, 64, 65, 66, 67, 68, 69, 70, 71, 72, 73, 74, 75, 76, 77, 78, 79, 80, 81, 82, 83, 84, 85, 86, 87, 88, 89, 90, 91, 92, 93, 94, 95, 96, 97, 98, 99, 100, 101, 102, 103, 104, 105, 106, 107, 108, 109, 110, 111, 112, 113, 114, 115, 116, 117, 118, 119, 120, 121, 122, 123, 124, 125, 126, 127, 128, 129, 130, 131, 132, 133] c10_62)
def c10_0 : ACode := .seq (.ops o10_1) (.seq (.ops o10_3) (.seq (.ops o10_5) (.seq (.seq (.ops o10_8) (.cond (.tmp 41) (.seq (.ops o10_11) (.ret)) (.skip))) (.seq (.ops o10_15) (.seq (.seq (.ops o10_18) (.block 0 (.clear [0, 1, 2, 3, 4, 11, 12, 13, 14, 15, 16, 17, 18, 19, 20, 21, 22, 23, 24, 25, 26, 27, 28, 29, 30, 31, 32, 33, 34, 35, 36, 37, 38, 39, 40, 41, 42, 43, 44, 45, 46, 47, 48, 49, 50, 51, 52, 53, 54, 55, 56, 57, 58, 59, 60, 61, 62, 63, 64, 65, 66, 67, 68, 69, 70, 71, 72, 73, 74, 75, 76, 77, 78, 79, 80, 81, 82, 83, 84, 85, 86, 87, 88, 89, 90, 91, 92, 93, 94, 95, 96, 97, 98, 99, 100, 101, 102, 103, 104, 105, 106, 107, 108, 109, 110, 111, 112, 113, 114, 115, 116, 117, 118, 119, 120, 121, 122, 123, 124, 125, 126, 127, 128, 129, 130, 131, 132, 133] (.loop b10_20)))) (.clear [0, 1, 2, 3, 4, 5, 6, 7, 8, 10, 11, 12, 13, 14, 15, 16, 17, 18, 19, 20, 21, 22, 23, 24, 25, 26, 27, 28, 29, 30, 31, 32, 33, 34, 35, 36, 37, 38, 39, 40, 41, 42, 43, 44, 45, 46, 47, 48, 49, 50, 51, 52, 53, 54, 55, 56, 57, 58, 59, 60, 61, 62, 63, 64, 65, 66, 67, 68, 69, 70, 71, 72, 73, 74, 75, 76, 77, 78, 79, 80, 81, 82, 83, 84, 85, 86, 87, 88, 89, 90, 91, 92, 93, 94, 95, 96, 97, 98, 99, 100, 101, 102, 103, 104, 105, 106, 107, 108, 109, 110, 111, 112, 113, 114, 115, 116, 117, 118, 119, 120, 121, 122, 123, 124, 125, 126, 127, 128, 129, 130, 131, 132, 133] c10_41))))))
def a10 : AFun := ⟨134, [.tmp 4], c10_0⟩
/-! #### skylightlaw31.of -/
def o11_1 : List AOper := [⟨some 1, .box (.tmp 0), none⟩,
  ⟨some 2, .alloc [.int .i64 0, .int .i64 0], none⟩]
def o11_3 : List AOper := [⟨some 3, .fieldAddr 0 (.tmp 1), none⟩,
  ⟨some 4, .load false [.int .i64] (.tmp 3), none⟩,
  ⟨some 5, .fieldAddr 1 (.tmp 1), none⟩,
  ⟨some 6, .load false [.int .i64] (.tmp 5), none⟩,
  ⟨some 7, .build [.int .i64 0, .int .i64 0] [(0, 1, .tmp 4), (1, 1, .tmp 6)], none⟩,
  ⟨none, .store 2 (.tmp 2) (.tmp 7), none⟩]
def c11_0 : ACode := .seq (.ops o11_1) (.seq (.ops o11_3) (.ret))
def a11 : AFun := ⟨8, [.cell true [.int .i64, .int .i64] 2], c11_0⟩
/-! #### skylightref31.Right -/
def o12_1 : List AOper := [⟨some 1, .box (.tmp 0), none⟩,
  ⟨some 2, .mv (.const (.bool false)), none⟩]
def o12_3 : List AOper := [⟨some 3, .fieldAddr 0 (.tmp 1), none⟩,
  ⟨some 4, .load false [.int .i64] (.tmp 3), none⟩,
  ⟨some 5, .bin .geq (.tmp 4) (.const (.int .i64 1)), none⟩,
  ⟨some 6, .mv (.tmp 5), none⟩,
  ⟨some 7, .fieldAddr 0 (.tmp 1), some (6, true)⟩,
  ⟨some 8, .load false [.int .i64] (.tmp 7), some (6, true)⟩,
  ⟨some 9, .bin .leq (.tmp 8) (.const (.int .i64 65536)), some (6, true)⟩,
  ⟨some 10, .pick (.tmp 6) (.tmp 9) (.const (.bool false)), none⟩,
  ⟨some 11, .mv (.tmp 10), none⟩,
  ⟨some 12, .fieldAddr 1 (.tmp 1), some (11, true)⟩,
  ⟨some 13, .load false [.int .i64] (.tmp 12), some (11, true)⟩,
  ⟨some 14, .bin .geq (.tmp 13) (.const (.int .i64 1)), some (11, true)⟩,
  ⟨some 15, .pick (.tmp 11) (.tmp 14) (.const (.bool false)), none⟩,
  ⟨some 16, .mv (.tmp 15), none⟩,
  ⟨some 17, .fieldAddr 1 (.tmp 1), some (16, true)⟩,
  ⟨some 18, .load false [.int .i64] (.tmp 17), some (16, true)⟩,
  ⟨some 19, .bin .leq (.tmp 18) (.const (.int .i64 256)), some (16, true)⟩,
  ⟨some 20, .pick (.tmp 16) (.tmp 19) (.const (.bool false)), none⟩,
  ⟨some 2, .mv (.tmp 20), none⟩]
def c12_0 : ACode := .seq (.ops o12_1) (.seq (.ops o12_3) (.ret))
def a12 : AFun := ⟨21, [.tmp 2], c12_0⟩
/-! #### skylightlaw31.awake -/
def o13_1 : List AOper := [⟨some 0, .mv (.const (.bool false)), none⟩]
def o13_3 : List AOper := [⟨some 2, .build [.int .i64 0, .int .i64 0] [(0, 1, .const (.int .i64 4)), (1, 1, .const (.int .i64 2))], none⟩,
  ⟨some 1, .alloc [.int .i64 0, .int .i64 0], none⟩,
  ⟨none, .store 2 (.tmp 1) (.tmp 2), none⟩]
def o13_5 : List AOper := [⟨some 3, .load true [.int .i64, .int .i64] (.tmp 1), none⟩,
  ⟨some 4, .call true (.func 16) [.tmp 3] [(false, [.int .i64])] true, none⟩,
  ⟨some 5, .bin .eql (.tmp 4) (.const (.int .i64 17)), none⟩,
  ⟨some 6, .mv (.tmp 5), none⟩,
  ⟨some 7, .load true [.int .i64, .int .i64] (.tmp 1), some (6, true)⟩,
  ⟨some 8, .call true (.func 20) [.tmp 7, .const (.int .i64 1), .const (.int .i64 2)] [(false, [.int .i64])] true, some (6, true)⟩,
  ⟨some 9, .bin .eql (.tmp 8) (.const (.int .i64 10)), some (6, true)⟩,
  ⟨some 10, .pick (.tmp 6) (.tmp 9) (.const (.bool false)), none⟩,
  ⟨some 11, .mv (.tmp 10), none⟩,
  ⟨some 12, .load true [.int .i64, .int .i64] (.tmp 1), some (11, true)⟩,
  ⟨some 13, .call true (.func 17) [.tmp 12, .const (.int .i64 1)] [(false, [.int .i64])] true, some (11, true)⟩,
  ⟨some 14, .bin .eql (.tmp 13) (.const (.int .i64 2)), some (11, true)⟩,
  ⟨some 15, .pick (.tmp 11) (.tmp 14) (.const (.bool false)), none⟩,
  ⟨some 16, .mv (.tmp 15), none⟩,
  ⟨some 17, .load true [.int .i64, .int .i64] (.tmp 1), some (16, true)⟩,
  ⟨some 18, .call true (.func 19) [.tmp 17, .const (.int .i64 2)] [(false, [.int .i64])] true, some (16, true)⟩,
  ⟨some 19, .bin .eql (.tmp 18) (.const (.int .i64 (-1))), some (16, true)⟩,
  ⟨some 20, .pick (.tmp 16) (.tmp 19) (.const (.bool false)), none⟩,
  ⟨some 21, .mv (.tmp 20), none⟩,
  ⟨some 22, .load true [.int .i64, .int .i64] (.tmp 1), some (21, true)⟩,
  ⟨some 23, .call true (.func 21) [.tmp 22, .const (.int .i64 3)] [(false, [.int .i64])] true, some (21, true)⟩,
  ⟨some 24, .bin .eql (.tmp 23) (.const (.int .i64 1)), some (21, true)⟩,
  ⟨some 25, .pick (.tmp 21) (.tmp 24) (.const (.bool false)), none⟩,
  ⟨some 26, .mv (.tmp 25), none⟩,
  ⟨some 27, .load true [.int .i64, .int .i64] (.tmp 1), some (26, true)⟩,
  ⟨some 28, .call true (.func 22) [.tmp 27, .const (.int .i64 4)] [(true, [.int .i64, .int .i64, .int .i64])] true, some (26, true)⟩,
  ⟨some 29, .build [.int .i64 0, .int .i64 0, .int .i64 0] [(0, 1, .const (.int .i64 3)), (1, 1, .const (.int .i64 1))], some (26, true)⟩,
  ⟨some 30, .eqAgg [.int .i64, .int .i64, .int .i64] false (.tmp 28) (.tmp 29), some (26, true)⟩,
  ⟨some 31, .pick (.tmp 26) (.tmp 30) (.const (.bool false)), none⟩,
  ⟨some 0, .mv (.tmp 31), none⟩]
def c13_0 : ACode := .seq (.ops o13_1) (.seq (.ops o13_3) (.seq (.ops o13_5) (.ret)))
def a13 : AFun := ⟨32, [.tmp 0], c13_0⟩
/-! #### skylightref31.All -/
def o14_1 : List AOper := [⟨some 1, .box (.tmp 0), none⟩,
  ⟨some 2, .mv (.const (.slice none 0 0)), none⟩]
def o14_4 : List AOper := [⟨some 7, .load true [.int .i64, .int .i64] (.tmp 1), none⟩,
  ⟨some 8, .call true (.func 12) [.tmp 7] [(false, [.bool])] true, none⟩,
  ⟨some 9, .un .not (.tmp 8), none⟩]
def o14_7 : List AOper := [⟨some 2, .mv (.const (.slice none 0 0)), none⟩]
def o14_11 : List AOper := [⟨some 10, .build [.int .i64 0, .int .i64 0, .int .i64 0] [(0, 1, .const (.int .i64 1))], none⟩,
  ⟨some 11, .buildSlice 3 1 [.int .i64 0, .int .i64 0, .int .i64 0] [(0, 3, .tmp 10)], none⟩,
  ⟨some 3, .mv (.tmp 11), none⟩]
def o14_14 : List AOper := [⟨some 4, .mv (.const (.int .i64 0)), none⟩]
def o14_19 : List AOper := [⟨some 12, .mv (.tmp 4), none⟩,
  ⟨some 13, .fieldAddr 1 (.tmp 1), none⟩,
  ⟨some 14, .load false [.int .i64] (.tmp 13), none⟩,
  ⟨some 15, .bin .lss (.tmp 12) (.tmp 14), none⟩]
def o14_25 : List AOper := [⟨some 18, .mv (.tmp 3), none⟩,
  ⟨some 19, .mv (.tmp 4), none⟩,
  ⟨some 20, .build [.int .i64 0, .int .i64 0, .int .i64 0] [(0, 1, .const (.int .i64 2)), (1, 1, .tmp 19)], none⟩,
  ⟨some 21, .buildSlice 3 1 [.int .i64 0, .int .i64 0, .int .i64 0] [(0, 3, .tmp 20)], none⟩,
  ⟨some 22, .append 3 24 (.tmp 18) (.tmp 21), none⟩,
  ⟨some 3, .mv (.tmp 22), none⟩]
def o14_26 : List AOper := [⟨some 16, .mv (.tmp 4), none⟩,
  ⟨some 17, .bin .add (.tmp 16) (.const (.int .i64 1)), none⟩,
  ⟨some 4, .mv (.tmp 17), none⟩]
def c14_26 : ACode := .ops o14_26
def b14_16 : ACode := .post (.seq (.seq (.ops o14_19) (.cond (.tmp 15) (.skip) (.exit 0))) (.seq (.block 1 (.ops o14_25)) (.clear [0, 2, 5, 6, 7, 8, 9, 10, 11, 12, 13, 14, 15, 16, 17, 18, 19, 20, 21, 22, 23, 24, 25, 26, 27, 28, 29, 30, 31, 32, 33, 34, 35, 36, 37, 38, 39, 40, 41, 42, 43, 44, 45, 46, 47, 48, 49] c14_26))) [0, 2, 5, 6, 7, 8, 9, 10, 11, 12, 13, 14, 15, 16, 17, 18, 19, 20, 21, 22, 23, 24, 25, 26, 27, 28, 29, 30, 31, 32, 33, 34, 35, 36, 37, 38, 39, 40, 41, 42, 43, 44, 45, 46, 47, 48, 49]
def o14_29 : List AOper := [⟨some 5, .mv (.const (.int .i64 0)), none⟩]
def o14_34 : List AOper := [⟨some 23, .mv (.tmp 5), none⟩,
  ⟨some 24, .fieldAddr 1 (.tmp 1), none⟩,
  ⟨some 25, .load false [.int .i64] (.tmp 24), none⟩,
  ⟨some 26, .bin .lss (.tmp 23) (.tmp 25), none⟩]
def o14_40 : List AOper := [⟨some 29, .mv (.tmp 3), none⟩,
  ⟨some 30, .mv (.tmp 5), none⟩,
  ⟨some 31, .build [.int .i64 0, .int .i64 0, .int .i64 0] [(0, 1, .const (.int .i64 3)), (1, 1, .tmp 30)], none⟩,
  ⟨some 32, .buildSlice 3 1 [.int .i64 0, .int .i64 0, .int .i64 0] [(0, 3, .tmp 31)], none⟩,
  ⟨some 33, .append 3 24 (.tmp 29) (.tmp 32), none⟩,
  ⟨some 3, .mv (.tmp 33), none⟩]
def o14_41 : List AOper := [⟨some 27, .mv (.tmp 5), none⟩,
  ⟨some 28, .bin .add (.tmp 27) (.const (.int .i64 1)), none⟩,
  ⟨some 5, .mv (.tmp 28), none⟩]
def c14_41 : ACode := .ops o14_41
def b14_31 : ACode := .post (.seq (.seq (.ops o14_34) (.cond (.tmp 26) (.skip) (.exit 2))) (.seq (.block 3 (.ops o14_40)) (.clear [0, 2, 4, 6, 7, 8, 9, 10, 11, 12, 13, 14, 15, 16, 17, 18, 19, 20, 21, 22, 23, 24, 25, 26, 27, 28, 29, 30, 31, 32, 33, 34, 35, 36, 37, 38, 39, 40, 41, 42, 43, 44, 45, 46, 47, 48, 49] c14_41))) [0, 2, 4, 6, 7, 8, 9, 10, 11, 12, 13, 14, 15, 16, 17, 18, 19, 20, 21, 22, 23, 24, 25, 26, 27, 28, 29, 30, 31, 32, 33, 34, 35, 36, 37, 38, 39, 40, 41, 42, 43, 44, 45, 46, 47, 48, 49]
def o14_44 : List AOper := [⟨some 6, .mv (.const (.int .i64 0)), none⟩]
def o14_49 : List AOper := [⟨some 34, .mv (.tmp 6), none⟩,
  ⟨some 35, .fieldAddr 0 (.tmp 1), none⟩,
  ⟨some 36, .load false [.int .i64] (.tmp 35), none⟩,
  ⟨some 37, .bin .mul (.const (.int .i64 3)) (.tmp 36), none⟩,
  ⟨some 38, .bin .lss (.tmp 34) (.tmp 37), none⟩]
def o14_55 : List AOper := [⟨some 41, .mv (.tmp 3), none⟩,
  ⟨some 42, .mv (.tmp 6), none⟩,
  ⟨some 43, .bin .quo (.tmp 42) (.const (.int .i64 3)), none⟩,
  ⟨some 44, .mv (.tmp 6), none⟩,
  ⟨some 45, .bin .rem (.tmp 44) (.const (.int .i64 3)), none⟩,
  ⟨some 46, .build [.int .i64 0, .int .i64 0, .int .i64 0] [(0, 1, .const (.int .i64 4)), (1, 1, .tmp 43), (2, 1, .tmp 45)], none⟩,
  ⟨some 47, .buildSlice 3 1 [.int .i64 0, .int .i64 0, .int .i64 0] [(0, 3, .tmp 46)], none⟩,
  ⟨some 48, .append 3 24 (.tmp 41) (.tmp 47), none⟩,
  ⟨some 3, .mv (.tmp 48), none⟩]
def o14_56 : List AOper := [⟨some 39, .mv (.tmp 6), none⟩,
  ⟨some 40, .bin .add (.tmp 39) (.const (.int .i64 1)), none⟩,
  ⟨some 6, .mv (.tmp 40), none⟩]
def c14_56 : ACode := .ops o14_56
def b14_46 : ACode := .post (.seq (.seq (.ops o14_49) (.cond (.tmp 38) (.skip) (.exit 4))) (.seq (.block 5 (.ops o14_55)) (.clear [0, 2, 4, 5, 7, 8, 9, 10, 11, 12, 13, 14, 15, 16, 17, 18, 19, 20, 21, 22, 23, 24, 25, 26, 27, 28, 29, 30, 31, 32, 33, 34, 35, 36, 37, 38, 39, 40, 41, 42, 43, 44, 45, 46, 47, 48, 49] c14_56))) [0, 2, 4, 5, 7, 8, 9, 10, 11, 12, 13, 14, 15, 16, 17, 18, 19, 20, 21, 22, 23, 24, 25, 26, 27, 28, 29, 30, 31, 32, 33, 34, 35, 36, 37, 38, 39, 40, 41, 42, 43, 44, 45, 46, 47, 48, 49]
def o14_58 : List AOper := [⟨some 49, .mv (.tmp 3), none⟩,
  ⟨some 2, .mv (.tmp 49), none⟩]
def c14_57 : ACode := .seq (.ops o14_58) (.ret)
def c14_42 : ACode := .seq (.seq (.ops o14_44) (.block 4 (.clear [0, 2, 4, 5, 7, 8, 9, 10, 11, 12, 13, 14, 15, 16, 17, 18, 19, 20, 21, 22, 23, 24, 25, 26, 27, 28, 29, 30, 31, 32, 33, 34, 35, 36, 37, 38, 39, 40, 41, 42, 43, 44, 45, 46, 47, 48, 49] (.loop b14_46)))) (.clear [0, 1, 2, 4, 5, 6, 7, 8, 9, 10, 11, 12, 13, 14, 15, 16, 17, 18, 19, 20, 21, 22, 23, 24, 25, 26, 27, 28, 29, 30, 31, 32, 33, 34, 35, 36, 37, 38, 39, 40, 41, 42, 43, 44, 45, 46, 47, 48, 49] c14_57)
def c14_27 : ACode := .seq (.seq (.ops o14_29) (.block 2 (.clear [0, 2, 4, 6, 7, 8, 9, 10, 11, 12, 13, 14, 15, 16, 17, 18, 19, 20, 21, 22, 23, 24, 25, 26, 27, 28, 29, 30, 31, 32, 33, 34, 35, 36, 37, 38, 39, 40, 41, 42, 43, 44, 45, 46, 47, 48, 49] (.loop b14_31)))) (.clear [0, 2, 4, 5, 6, 7, 8, 9, 10, 11, 12, 13, 14, 15, 16, 17, 18, 19, 20, 21, 22, 23, 24, 25, 26, 27, 28, 29, 30, 31, 32, 33, 34, 35, 36, 37, 38, 39, 40, 41, 42, 43, 44, 45, 46, 47, 48, 49] c14_42)
def c14_0 : ACode := .seq (.ops o14_1) (.seq (.seq (.ops o14_4) (.cond (.tmp 9) (.seq (.ops o14_7) (.ret)) (.skip))) (.seq (.ops o14_11) (.seq (.seq (.ops o14_14) (.block 0 (.clear [0, 2, 5, 6, 7, 8, 9, 10, 11, 12, 13, 14, 15, 16, 17, 18, 19, 20, 21, 22, 23, 24, 25, 26, 27, 28, 29, 30, 31, 32, 33, 34, 35, 36, 37, 38, 39, 40, 41, 42, 43, 44, 45, 46, 47, 48, 49] (.loop b14_16)))) (.clear [0, 2, 4, 5, 6, 7, 8, 9, 10, 11, 12, 13, 14, 15, 16, 17, 18, 19, 20, 21, 22, 23, 24, 25, 26, 27, 28, 29, 30, 31, 32, 33, 34, 35, 36, 37, 38, 39, 40, 41, 42, 43, 44, 45, 46, 47, 48, 49] c14_27))))
def a14 : AFun := ⟨50, [.tmp 2], c14_0⟩
/-! #### layout.Right -/
def o15_1 : List AOper := [⟨some 1, .box (.tmp 0), none⟩,
  ⟨some 2, .mv (.const (.bool false)), none⟩]
def o15_3 : List AOper := [⟨some 3, .fieldAddr 0 (.tmp 1), none⟩,
  ⟨some 4, .load false [.int .i64] (.tmp 3), none⟩,
  ⟨some 5, .bin .leq (.const (.int .i64 1)) (.tmp 4), none⟩,
  ⟨some 6, .mv (.tmp 5), none⟩,
  ⟨some 7, .fieldAddr 0 (.tmp 1), some (6, true)⟩,
  ⟨some 8, .load false [.int .i64] (.tmp 7), some (6, true)⟩,
  ⟨some 9, .bin .leq (.tmp 8) (.const (.int .i64 65536)), some (6, true)⟩,
  ⟨some 10, .pick (.tmp 6) (.tmp 9) (.const (.bool false)), none⟩,
  ⟨some 11, .mv (.tmp 10), none⟩,
  ⟨some 12, .fieldAddr 1 (.tmp 1), some (11, true)⟩,
  ⟨some 13, .load false [.int .i64] (.tmp 12), some (11, true)⟩,
  ⟨some 14, .bin .leq (.const (.int .i64 1)) (.tmp 13), some (11, true)⟩,
  ⟨some 15, .pick (.tmp 11) (.tmp 14) (.const (.bool false)), none⟩,
  ⟨some 16, .mv (.tmp 15), none⟩,
  ⟨some 17, .fieldAddr 1 (.tmp 1), some (16, true)⟩,
  ⟨some 18, .load false [.int .i64] (.tmp 17), some (16, true)⟩,
  ⟨some 19, .bin .leq (.tmp 18) (.const (.int .i64 256)), some (16, true)⟩,
  ⟨some 20, .pick (.tmp 16) (.tmp 19) (.const (.bool false)), none⟩,
  ⟨some 2, .mv (.tmp 20), none⟩]
def c15_0 : ACode := .seq (.ops o15_1) (.seq (.ops o15_3) (.ret))
def a15 : AFun := ⟨21, [.tmp 2], c15_0⟩
/-! #### layout.Size -/
def o16_1 : List AOper := [⟨some 1, .box (.tmp 0), none⟩,
  ⟨some 2, .mv (.const (.int .i64 0)), none⟩]
def o16_4 : List AOper := [⟨some 3, .load true [.int .i64, .int .i64] (.tmp 1), none⟩,
  ⟨some 4, .call true (.func 15) [.tmp 3] [(false, [.bool])] true, none⟩,
  ⟨some 5, .un .not (.tmp 4), none⟩]
def o16_7 : List AOper := [⟨some 2, .mv (.const (.int .i64 0)), none⟩]
def o16_11 : List (AOper × Option Nat) := [(⟨some 6, .load true [.int .i64, .int .i64] (.tmp 1), none⟩, none),
  (⟨some 7, .call true (.func 49) [.tmp 6, .const (.int .i64 4)] [(false, [.int .i64])] true, none⟩, none),
  (⟨some 8, .fieldAddr 0 (.tmp 1), none⟩, none),
  (⟨some 9, .load false [.int .i64] (.tmp 8), none⟩, none),
  (⟨some 10, .bin .mul (.const (.int .i64 3)) (.tmp 9), none⟩, none),
  (⟨some 11, .bin .add (.tmp 7) (.tmp 10), none⟩, none),
  (⟨some 2, .mv (.tmp 11), none⟩, none)]
def c16_0 : ACode := .seq (.ops o16_1) (.seq (.seq (.ops o16_4) (.cond (.tmp 5) (.seq (.ops o16_7) (.ret)) (.skip))) (.seq (.draw [] 0 o16_11 []) (.ret)))
def a16 : AFun := ⟨12, [.tmp 2], c16_0⟩
/-! #### layout.Begun -/
def o17_1 : List AOper := [⟨some 2, .box (.tmp 0), none⟩,
  ⟨some 4, .mv (.const (.int .i64 0)), none⟩]
def o17_3 : List AOper := [⟨some 5, .load true [.int .i64, .int .i64] (.tmp 2), none⟩,
  ⟨some 6, .mv (.tmp 1), none⟩,
  ⟨some 7, .fieldAddr 1 (.tmp 2), none⟩,
  ⟨some 8, .load false [.int .i64] (.tmp 7), none⟩,
  ⟨some 9, .call true (.func 50) [.tmp 5, .const (.int .i64 2), .tmp 6, .tmp 8] [(false, [.int .i64])] true, none⟩,
  ⟨some 4, .mv (.tmp 9), none⟩]
def c17_0 : ACode := .seq (.ops o17_1) (.seq (.ops o17_3) (.ret))
def a17 : AFun := ⟨10, [.tmp 4], c17_0⟩
/-! #### skylightref31.Find -/
def o18_1 : List AOper := [⟨some 2, .box (.tmp 0), none⟩,
  ⟨some 3, .box (.tmp 1), none⟩,
  ⟨some 4, .mv (.const (.int .i64 0)), none⟩]
def o18_3 : List AOper := [⟨some 7, .load true [.int .i64, .int .i64] (.tmp 2), none⟩,
  ⟨some 8, .call false (.func 14) [.tmp 7] [(false, [.slice])] true, none⟩,
  ⟨some 5, .mv (.tmp 8), none⟩]
def o18_6 : List AOper := [⟨some 6, .mv (.const (.int .i64 0)), none⟩]
def o18_11 : List AOper := [⟨some 9, .mv (.tmp 6), none⟩,
  ⟨some 10, .mv (.tmp 5), none⟩,
  ⟨some 11, .len (.tmp 10), none⟩,
  ⟨some 12, .bin .lss (.tmp 9) (.tmp 11), none⟩]
def o18_18 : List (AOper × Option Nat) := [(⟨some 15, .mv (.tmp 5), none⟩, none),
  (⟨some 16, .mv (.tmp 6), none⟩, none),
  (⟨some 17, .indexAddr 3 (.tmp 15) (.tmp 16), none⟩, none),
  (⟨some 18, .load true [.int .i64, .int .i64, .int .i64] (.tmp 17), none⟩, none),
  (⟨some 19, .load true [.int .i64, .int .i64, .int .i64] (.tmp 3), none⟩, none),
  (⟨some 20, .eqAgg [.int .i64, .int .i64, .int .i64] false (.tmp 18) (.tmp 19), none⟩, none)]
def o18_21 : List AOper := [⟨some 21, .mv (.tmp 6), none⟩,
  ⟨some 4, .mv (.tmp 21), none⟩]
def o18_24 : List AOper := [⟨some 13, .mv (.tmp 6), none⟩,
  ⟨some 14, .bin .add (.tmp 13) (.const (.int .i64 1)), none⟩,
  ⟨some 6, .mv (.tmp 14), none⟩]
def c18_24 : ACode := .ops o18_24
def b18_8 : ACode := .post (.seq (.seq (.ops o18_11) (.cond (.tmp 12) (.skip) (.exit 0))) (.seq (.block 1 (.seq (.draw [] 0 o18_18 []) (.cond (.tmp 20) (.seq (.ops o18_21) (.ret)) (.skip)))) (.clear [0, 1, 2, 4, 7, 8, 9, 10, 11, 12, 13, 14, 15, 16, 17, 18, 19, 20, 21] c18_24))) [0, 1, 2, 4, 7, 8, 9, 10, 11, 12, 13, 14, 15, 16, 17, 18, 19, 20, 21]
def o18_26 : List AOper := [⟨some 4, .mv (.const (.int .i64 (-1))), none⟩]
def c18_25 : ACode := .seq (.ops o18_26) (.ret)
def c18_0 : ACode := .seq (.ops o18_1) (.seq (.ops o18_3) (.seq (.seq (.ops o18_6) (.block 0 (.clear [0, 1, 2, 4, 7, 8, 9, 10, 11, 12, 13, 14, 15, 16, 17, 18, 19, 20, 21] (.loop b18_8)))) (.clear [0, 1, 2, 3, 4, 5, 6, 7, 8, 9, 10, 11, 12, 13, 14, 15, 16, 17, 18, 19, 20, 21] c18_25)))
def a18 : AFun := ⟨22, [.tmp 4], c18_0⟩
/-! #### layout.Ended -/
def o19_1 : List AOper := [⟨some 2, .box (.tmp 0), none⟩,
  ⟨some 4, .mv (.const (.int .i64 0)), none⟩]
def o19_3 : List AOper := [⟨some 5, .load true [.int .i64, .int .i64] (.tmp 2), none⟩,
  ⟨some 6, .mv (.tmp 1), none⟩,
  ⟨some 7, .fieldAddr 1 (.tmp 2), none⟩,
  ⟨some 8, .load false [.int .i64] (.tmp 7), none⟩,
  ⟨some 9, .call true (.func 50) [.tmp 5, .const (.int .i64 3), .tmp 6, .tmp 8] [(false, [.int .i64])] true, none⟩,
  ⟨some 4, .mv (.tmp 9), none⟩]
def c19_0 : ACode := .seq (.ops o19_1) (.seq (.ops o19_3) (.ret))
def a19 : AFun := ⟨10, [.tmp 4], c19_0⟩
/-! #### layout.Channel -/
def o20_1 : List AOper := [⟨some 3, .box (.tmp 0), none⟩,
  ⟨some 6, .mv (.const (.int .i64 0)), none⟩]
def o20_4 : List AOper := [⟨some 7, .mv (.tmp 2), none⟩,
  ⟨some 8, .bin .lss (.tmp 7) (.const (.int .i64 0)), none⟩,
  ⟨some 9, .mv (.tmp 8), none⟩,
  ⟨some 10, .mv (.tmp 2), some (9, false)⟩,
  ⟨some 11, .bin .geq (.tmp 10) (.const (.int .i64 3)), some (9, false)⟩,
  ⟨some 12, .pick (.tmp 9) (.const (.bool true)) (.tmp 11), none⟩,
  ⟨some 13, .mv (.tmp 12), none⟩,
  ⟨some 14, .mv (.tmp 1), some (13, false)⟩,
  ⟨some 15, .bin .lss (.tmp 14) (.const (.int .i64 0)), some (13, false)⟩,
  ⟨some 16, .pick (.tmp 13) (.const (.bool true)) (.tmp 15), none⟩,
  ⟨some 17, .mv (.tmp 16), none⟩,
  ⟨some 18, .mv (.tmp 1), some (17, false)⟩,
  ⟨some 19, .fieldAddr 0 (.tmp 3), some (17, false)⟩,
  ⟨some 20, .load false [.int .i64] (.tmp 19), some (17, false)⟩,
  ⟨some 21, .bin .geq (.tmp 18) (.tmp 20), some (17, false)⟩,
  ⟨some 22, .pick (.tmp 17) (.const (.bool true)) (.tmp 21), none⟩]
def o20_7 : List AOper := [⟨some 6, .mv (.const (.int .i64 (-1))), none⟩]
def o20_11 : List AOper := [⟨some 23, .load true [.int .i64, .int .i64] (.tmp 3), none⟩,
  ⟨some 24, .mv (.tmp 1), none⟩,
  ⟨some 25, .bin .mul (.const (.int .i64 3)) (.tmp 24), none⟩,
  ⟨some 26, .mv (.tmp 2), none⟩,
  ⟨some 27, .bin .add (.tmp 25) (.tmp 26), none⟩,
  ⟨some 28, .fieldAddr 0 (.tmp 3), none⟩,
  ⟨some 29, .load false [.int .i64] (.tmp 28), none⟩,
  ⟨some 30, .bin .mul (.const (.int .i64 3)) (.tmp 29), none⟩,
  ⟨some 31, .call true (.func 50) [.tmp 23, .const (.int .i64 4), .tmp 27, .tmp 30] [(false, [.int .i64])] true, none⟩,
  ⟨some 6, .mv (.tmp 31), none⟩]
def c20_0 : ACode := .seq (.ops o20_1) (.seq (.seq (.ops o20_4) (.cond (.tmp 22) (.seq (.ops o20_7) (.ret)) (.skip))) (.seq (.ops o20_11) (.ret)))
def a20 : AFun := ⟨32, [.tmp 6], c20_0⟩
/-! #### layout.Stripe -/
def o21_1 : List AOper := [⟨some 2, .box (.tmp 0), none⟩,
  ⟨some 4, .mv (.const (.int .i64 0)), none⟩]
def o21_4 : List AOper := [⟨some 5, .load true [.int .i64, .int .i64] (.tmp 2), none⟩,
  ⟨some 6, .call true (.func 15) [.tmp 5] [(false, [.bool])] true, none⟩,
  ⟨some 7, .un .not (.tmp 6), none⟩,
  ⟨some 8, .mv (.tmp 7), none⟩,
  ⟨some 9, .mv (.tmp 1), some (8, false)⟩,
  ⟨some 10, .bin .lss (.tmp 9) (.const (.int .i64 0)), some (8, false)⟩,
  ⟨some 11, .pick (.tmp 8) (.const (.bool true)) (.tmp 10), none⟩,
  ⟨some 12, .mv (.tmp 11), none⟩,
  ⟨some 13, .mv (.tmp 1), some (12, false)⟩,
  ⟨some 14, .fieldAddr 0 (.tmp 2), some (12, false)⟩,
  ⟨some 15, .load false [.int .i64] (.tmp 14), some (12, false)⟩,
  ⟨some 16, .bin .geq (.tmp 13) (.tmp 15), some (12, false)⟩,
  ⟨some 17, .pick (.tmp 12) (.const (.bool true)) (.tmp 16), none⟩]
def o21_7 : List AOper := [⟨some 4, .mv (.const (.int .i64 (-1))), none⟩]
def o21_11 : List AOper := [⟨some 18, .mv (.tmp 1), none⟩,
  ⟨some 19, .fieldAddr 1 (.tmp 2), none⟩,
  ⟨some 20, .load false [.int .i64] (.tmp 19), none⟩,
  ⟨some 21, .bin .rem (.tmp 18) (.tmp 20), none⟩,
  ⟨some 4, .mv (.tmp 21), none⟩]
def c21_0 : ACode := .seq (.ops o21_1) (.seq (.seq (.ops o21_4) (.cond (.tmp 17) (.seq (.ops o21_7) (.ret)) (.skip))) (.seq (.ops o21_11) (.ret)))
def a21 : AFun := ⟨22, [.tmp 4], c21_0⟩
/-! #### layout.Of -/
def o22_1 : List AOper := [⟨some 2, .box (.tmp 0), none⟩,
  ⟨some 4, .alloc [.int .i64 0, .int .i64 0, .int .i64 0], none⟩]
def o22_4 : List AOper := [⟨some 7, .mv (.tmp 1), none⟩,
  ⟨some 8, .bin .lss (.tmp 7) (.const (.int .i64 0)), none⟩,
  ⟨some 9, .mv (.tmp 8), none⟩,
  ⟨some 10, .mv (.tmp 1), some (9, false)⟩,
  ⟨some 11, .load true [.int .i64, .int .i64] (.tmp 2), some (9, false)⟩,
  ⟨some 12, .call true (.func 16) [.tmp 11] [(false, [.int .i64])] true, some (9, false)⟩,
  ⟨some 13, .bin .geq (.tmp 10) (.tmp 12), some (9, false)⟩,
  ⟨some 14, .pick (.tmp 9) (.const (.bool true)) (.tmp 13), none⟩]
def o22_7 : List AOper := [⟨some 15, .build [.int .i64 0, .int .i64 0, .int .i64 0] [], none⟩,
  ⟨none, .store 3 (.tmp 4) (.tmp 15), none⟩]
def o22_12 : List AOper := [⟨some 5, .mv (.const (.int .i64 3)), none⟩]
def o22_17 : List AOper := [⟨some 16, .mv (.tmp 5), none⟩,
  ⟨some 17, .bin .gtr (.tmp 16) (.const (.int .i64 1)), none⟩]
def o22_24 : List AOper := [⟨some 20, .load true [.int .i64, .int .i64] (.tmp 2), none⟩,
  ⟨some 21, .mv (.tmp 5), none⟩,
  ⟨some 22, .call true (.func 49) [.tmp 20, .tmp 21] [(false, [.int .i64])] true, none⟩,
  ⟨some 6, .mv (.tmp 22), none⟩]
def o22_26 : List AOper := [⟨some 23, .mv (.tmp 1), none⟩,
  ⟨some 24, .mv (.tmp 6), none⟩,
  ⟨some 25, .bin .geq (.tmp 23) (.tmp 24), none⟩,
  ⟨some 26, .mv (.tmp 25), none⟩,
  ⟨some 27, .mv (.tmp 1), some (26, true)⟩,
  ⟨some 28, .load true [.int .i64, .int .i64] (.tmp 2), some (26, true)⟩,
  ⟨some 29, .mv (.tmp 5), some (26, true)⟩,
  ⟨some 30, .bin .add (.tmp 29) (.const (.int .i64 1)), some (26, true)⟩,
  ⟨some 31, .call true (.func 49) [.tmp 28, .tmp 30] [(false, [.int .i64])] true, some (26, true)⟩,
  ⟨some 32, .bin .lss (.tmp 27) (.tmp 31), some (26, true)⟩,
  ⟨some 33, .pick (.tmp 26) (.tmp 32) (.const (.bool false)), none⟩]
def o22_29 : List AOper := [⟨some 34, .mv (.tmp 5), none⟩,
  ⟨some 35, .mv (.tmp 1), none⟩,
  ⟨some 36, .mv (.tmp 6), none⟩,
  ⟨some 37, .bin .sub (.tmp 35) (.tmp 36), none⟩,
  ⟨some 38, .build [.int .i64 0, .int .i64 0, .int .i64 0] [(0, 1, .tmp 34), (1, 1, .tmp 37)], none⟩,
  ⟨none, .store 3 (.tmp 4) (.tmp 38), none⟩]
def o22_32 : List AOper := [⟨some 18, .mv (.tmp 5), none⟩,
  ⟨some 19, .bin .sub (.tmp 18) (.const (.int .i64 1)), none⟩,
  ⟨some 5, .mv (.tmp 19), none⟩]
def c22_32 : ACode := .ops o22_32
def b22_14 : ACode := .post (.seq (.seq (.ops o22_17) (.cond (.tmp 17) (.skip) (.exit 0))) (.seq (.block 1 (.seq (.ops o22_24) (.seq (.ops o22_26) (.cond (.tmp 33) (.seq (.ops o22_29) (.ret)) (.skip))))) (.clear [0, 3, 6, 7, 8, 9, 10, 11, 12, 13, 14, 15, 16, 17, 18, 19, 20, 21, 22, 23, 24, 25, 26, 27, 28, 29, 30, 31, 32, 33, 34, 35, 36, 37, 38, 39, 40, 41, 42, 43, 44, 45, 46, 47, 48, 49, 50] c22_32))) [0, 3, 6, 7, 8, 9, 10, 11, 12, 13, 14, 15, 16, 17, 18, 19, 20, 21, 22, 23, 24, 25, 26, 27, 28, 29, 30, 31, 32, 33, 34, 35, 36, 37, 38, 39, 40, 41, 42, 43, 44, 45, 46, 47, 48, 49, 50]
def o22_35 : List AOper := [⟨some 39, .mv (.tmp 1), none⟩,
  ⟨some 40, .bin .eql (.tmp 39) (.const (.int .i64 0)), none⟩]
def o22_38 : List AOper := [⟨some 41, .build [.int .i64 0, .int .i64 0, .int .i64 0] [(0, 1, .const (.int .i64 1))], none⟩,
  ⟨none, .store 3 (.tmp 4) (.tmp 41), none⟩]
def o22_42 : List AOper := [⟨some 42, .mv (.tmp 1), none⟩,
  ⟨some 43, .load true [.int .i64, .int .i64] (.tmp 2), none⟩,
  ⟨some 44, .call true (.func 49) [.tmp 43, .const (.int .i64 4)] [(false, [.int .i64])] true, none⟩,
  ⟨some 45, .bin .sub (.tmp 42) (.tmp 44), none⟩,
  ⟨some 1, .mv (.tmp 45), none⟩]
def o22_44 : List AOper := [⟨some 46, .mv (.tmp 1), none⟩,
  ⟨some 47, .bin .quo (.tmp 46) (.const (.int .i64 3)), none⟩,
  ⟨some 48, .mv (.tmp 1), none⟩,
  ⟨some 49, .bin .rem (.tmp 48) (.const (.int .i64 3)), none⟩,
  ⟨some 50, .build [.int .i64 0, .int .i64 0, .int .i64 0] [(0, 1, .const (.int .i64 4)), (1, 1, .tmp 47), (2, 1, .tmp 49)], none⟩,
  ⟨none, .store 3 (.tmp 4) (.tmp 50), none⟩]
def c22_33 : ACode := .seq (.seq (.ops o22_35) (.cond (.tmp 40) (.seq (.ops o22_38) (.ret)) (.skip))) (.seq (.ops o22_42) (.seq (.ops o22_44) (.ret)))
def c22_0 : ACode := .seq (.ops o22_1) (.seq (.seq (.ops o22_4) (.cond (.tmp 14) (.seq (.ops o22_7) (.ret)) (.skip))) (.seq (.seq (.ops o22_12) (.block 0 (.clear [0, 3, 6, 7, 8, 9, 10, 11, 12, 13, 14, 15, 16, 17, 18, 19, 20, 21, 22, 23, 24, 25, 26, 27, 28, 29, 30, 31, 32, 33, 34, 35, 36, 37, 38, 39, 40, 41, 42, 43, 44, 45, 46, 47, 48, 49, 50] (.loop b22_14)))) (.clear [0, 3, 5, 6, 7, 8, 9, 10, 11, 12, 13, 14, 15, 16, 17, 18, 19, 20, 21, 22, 23, 24, 25, 26, 27, 28, 29, 30, 31, 32, 33, 34, 35, 36, 37, 38, 39, 40, 41, 42, 43, 44, 45, 46, 47, 48, 49, 50] c22_33)))
def a22 : AFun := ⟨51, [.cell true [.int .i64, .int .i64, .int .i64] 4], c22_0⟩
/-! #### skylightlaw30.awake -/
def o23_1 : List AOper := [⟨some 0, .mv (.const (.bool false)), none⟩]
def o23_3 : List AOper := [⟨some 2, .call false (.func 24) [.const (.int .i64 1)] [(false, [.ptr])] true, none⟩,
  ⟨some 1, .mv (.tmp 2), none⟩]
def o23_5 : List AOper := [⟨some 3, .mv (.tmp 1), none⟩,
  ⟨some 4, .call false (.func 28) [.tmp 3, .const (.int .i64 0), .const (.int .u64 0), .const (.int .u64 1)] [(false, [.bool])] true, none⟩,
  ⟨some 5, .mv (.tmp 4), none⟩,
  ⟨some 6, .mv (.tmp 1), some (5, true)⟩,
  ⟨some 7, .call false (.func 28) [.tmp 6, .const (.int .i64 0), .const (.int .u64 0), .const (.int .u64 1)] [(false, [.bool])] true, some (5, true)⟩,
  ⟨some 8, .un .not (.tmp 7), some (5, true)⟩,
  ⟨some 9, .pick (.tmp 5) (.tmp 8) (.const (.bool false)), none⟩,
  ⟨some 10, .mv (.tmp 9), none⟩,
  ⟨some 11, .mv (.tmp 1), some (10, true)⟩,
  ⟨some 12, .call false (.func 32) [.tmp 11] [(false, [.int .i64])] true, some (10, true)⟩,
  ⟨some 13, .bin .eql (.tmp 12) (.const (.int .i64 1)), some (10, true)⟩,
  ⟨some 14, .pick (.tmp 10) (.tmp 13) (.const (.bool false)), none⟩,
  ⟨some 15, .mv (.tmp 14), none⟩,
  ⟨some 16, .mv (.tmp 1), some (15, true)⟩,
  ⟨some 17, .call false (.func 30) [.tmp 16] [(false, [.int .i64])] true, some (15, true)⟩,
  ⟨some 18, .bin .eql (.tmp 17) (.const (.int .i64 2)), some (15, true)⟩,
  ⟨some 19, .pick (.tmp 15) (.tmp 18) (.const (.bool false)), none⟩,
  ⟨some 20, .mv (.tmp 19), none⟩,
  ⟨some 21, .mv (.tmp 1), some (20, true)⟩,
  ⟨some 22, .call false (.func 31) [.tmp 21] [(false, [.int .i64])] true, some (20, true)⟩,
  ⟨some 23, .bin .eql (.tmp 22) (.const (.int .i64 1)), some (20, true)⟩,
  ⟨some 24, .pick (.tmp 20) (.tmp 23) (.const (.bool false)), none⟩,
  ⟨some 25, .mv (.tmp 24), none⟩,
  ⟨some 26, .call false (.func 24) [.const (.int .i64 (-1))] [(false, [.ptr])] true, some (25, true)⟩,
  ⟨some 27, .eqNil 0 false (.tmp 26), some (25, true)⟩,
  ⟨some 28, .pick (.tmp 25) (.tmp 27) (.const (.bool false)), none⟩,
  ⟨some 0, .mv (.tmp 28), none⟩]
def c23_0 : ACode := .seq (.ops o23_1) (.seq (.ops o23_3) (.seq (.ops o23_5) (.ret)))
def a23 : AFun := ⟨29, [.tmp 0], c23_0⟩
/-! #### cell.New -/
def o24_1 : List AOper := [⟨some 2, .mv (.const (.pointer none)), none⟩]
def o24_4 : List AOper := [⟨some 3, .mv (.tmp 0), none⟩,
  ⟨some 4, .bin .lss (.tmp 3) (.const (.int .i64 0)), none⟩,
  ⟨some 5, .mv (.tmp 4), none⟩,
  ⟨some 6, .mv (.tmp 0), some (5, false)⟩,
  ⟨some 7, .bin .gtr (.tmp 6) (.const (.int .i64 262144)), some (5, false)⟩,
  ⟨some 8, .pick (.tmp 5) (.const (.bool true)) (.tmp 7), none⟩]
def o24_7 : List AOper := [⟨some 2, .mv (.const (.pointer none)), none⟩]
def o24_11 : List AOper := [⟨some 9, .mv (.tmp 0), none⟩,
  ⟨some 10, .makeSlice 1 8 [.int .u64 0] (.tmp 9) (.tmp 9), none⟩,
  ⟨some 11, .build [.bool false, .slice none 0 0, .int .i64 0, .int .i64 0] [(0, 1, .const (.bool true)), (1, 1, .tmp 10)], none⟩,
  ⟨some 12, .box (.tmp 11), none⟩,
  ⟨some 2, .mv (.tmp 12), none⟩]
def c24_0 : ACode := .seq (.ops o24_1) (.seq (.seq (.ops o24_4) (.cond (.tmp 8) (.seq (.ops o24_7) (.ret)) (.skip))) (.seq (.ops o24_11) (.ret)))
def a24 : AFun := ⟨13, [.tmp 2], c24_0⟩
/-! #### skylightref30.New -/
def o25_1 : List AOper := [⟨some 2, .alloc [.slice none 0 0, .int .i64 0, .int .i64 0], none⟩,
  ⟨some 3, .mv (.const (.bool false)), none⟩]
def o25_4 : List AOper := [⟨some 4, .mv (.tmp 0), none⟩,
  ⟨some 5, .bin .lss (.tmp 4) (.const (.int .i64 0)), none⟩,
  ⟨some 6, .mv (.tmp 5), none⟩,
  ⟨some 7, .mv (.tmp 0), some (6, false)⟩,
  ⟨some 8, .bin .gtr (.tmp 7) (.const (.int .i64 262144)), some (6, false)⟩,
  ⟨some 9, .pick (.tmp 6) (.const (.bool true)) (.tmp 8), none⟩]
def o25_7 : List AOper := [⟨some 10, .build [.slice none 0 0, .int .i64 0, .int .i64 0] [], none⟩,
  ⟨none, .store 3 (.tmp 2) (.tmp 10), none⟩,
  ⟨some 3, .mv (.const (.bool false)), none⟩]
def o25_11 : List AOper := [⟨some 11, .mv (.tmp 0), none⟩,
  ⟨some 12, .makeSlice 1 8 [.int .u64 0] (.tmp 11) (.tmp 11), none⟩,
  ⟨some 13, .build [.slice none 0 0, .int .i64 0, .int .i64 0] [(0, 1, .tmp 12)], none⟩,
  ⟨none, .store 3 (.tmp 2) (.tmp 13), none⟩,
  ⟨some 3, .mv (.const (.bool true)), none⟩]
def c25_0 : ACode := .seq (.ops o25_1) (.seq (.seq (.ops o25_4) (.cond (.tmp 9) (.seq (.ops o25_7) (.ret)) (.skip))) (.seq (.ops o25_11) (.ret)))
def a25 : AFun := ⟨14, [.cell true [.slice, .int .i64, .int .i64] 2, .tmp 3], c25_0⟩
/-! #### skylightref30.Memory.Load -/
def o26_1 : List AOper := [⟨some 4, .mv (.const (.int .u64 0)), none⟩,
  ⟨some 5, .mv (.const (.bool false)), none⟩]
def o26_3 : List AOper := [⟨some 6, .mv (.tmp 0), none⟩,
  ⟨some 7, .nilCheck (.tmp 6), none⟩,
  ⟨some 8, .fieldAddr 1 (.tmp 7), none⟩,
  ⟨some 9, .load false [.int .i64] (.tmp 8), none⟩,
  ⟨some 10, .bin .add (.tmp 9) (.const (.int .i64 1)), none⟩,
  ⟨some 11, .nilCheck (.tmp 6), none⟩,
  ⟨some 12, .fieldAddr 1 (.tmp 11), none⟩,
  ⟨none, .store 1 (.tmp 12) (.tmp 10), none⟩]
def o26_6 : List AOper := [⟨some 13, .mv (.tmp 1), none⟩,
  ⟨some 14, .bin .lss (.tmp 13) (.const (.int .i64 0)), none⟩,
  ⟨some 15, .mv (.tmp 14), none⟩,
  ⟨some 16, .mv (.tmp 1), some (15, false)⟩,
  ⟨some 17, .mv (.tmp 0), some (15, false)⟩,
  ⟨some 18, .nilCheck (.tmp 17), some (15, false)⟩,
  ⟨some 19, .fieldAddr 0 (.tmp 18), some (15, false)⟩,
  ⟨some 20, .load false [.slice] (.tmp 19), some (15, false)⟩,
  ⟨some 21, .len (.tmp 20), some (15, false)⟩,
  ⟨some 22, .bin .geq (.tmp 16) (.tmp 21), some (15, false)⟩,
  ⟨some 23, .pick (.tmp 15) (.const (.bool true)) (.tmp 22), none⟩]
def o26_9 : List AOper := [⟨some 4, .mv (.const (.int .u64 0)), none⟩,
  ⟨some 5, .mv (.const (.bool false)), none⟩]
def o26_13 : List AOper := [⟨some 24, .mv (.tmp 0), none⟩,
  ⟨some 25, .nilCheck (.tmp 24), none⟩,
  ⟨some 26, .fieldAddr 0 (.tmp 25), none⟩,
  ⟨some 27, .load false [.slice] (.tmp 26), none⟩,
  ⟨some 28, .mv (.tmp 1), none⟩,
  ⟨some 29, .indexAddr 1 (.tmp 27) (.tmp 28), none⟩,
  ⟨some 30, .load false [.int .u64] (.tmp 29), none⟩,
  ⟨some 4, .mv (.tmp 30), none⟩,
  ⟨some 5, .mv (.const (.bool true)), none⟩]
def c26_0 : ACode := .seq (.ops o26_1) (.seq (.ops o26_3) (.seq (.seq (.ops o26_6) (.cond (.tmp 23) (.seq (.ops o26_9) (.ret)) (.skip))) (.seq (.ops o26_13) (.ret))))
def a26 : AFun := ⟨31, [.tmp 4, .tmp 5], c26_0⟩
/-! #### cell.Memory.Load -/
def o27_1 : List AOper := [⟨some 4, .mv (.const (.int .u64 0)), none⟩,
  ⟨some 5, .mv (.const (.bool false)), none⟩]
def o27_3 : List AOper := [⟨some 7, .mv (.tmp 0), none⟩,
  ⟨some 8, .mv (.tmp 1), none⟩,
  ⟨some 9, .call false (.func 51) [.tmp 7, .tmp 8] [(false, [.ptr])] true, none⟩,
  ⟨some 6, .mv (.tmp 9), none⟩]
def o27_6 : List AOper := [⟨some 10, .mv (.tmp 6), none⟩,
  ⟨some 11, .eqNil 0 false (.tmp 10), none⟩]
def o27_9 : List AOper := [⟨some 4, .mv (.const (.int .u64 0)), none⟩,
  ⟨some 5, .mv (.const (.bool false)), none⟩]
def o27_13 : List AOper := [⟨some 12, .mv (.tmp 6), none⟩,
  ⟨some 13, .nilCheck (.tmp 12), none⟩,
  ⟨some 14, .load false [.int .u64] (.tmp 13), none⟩,
  ⟨some 4, .mv (.tmp 14), none⟩,
  ⟨some 5, .mv (.const (.bool true)), none⟩]
def c27_0 : ACode := .seq (.ops o27_1) (.seq (.ops o27_3) (.seq (.seq (.ops o27_6) (.cond (.tmp 11) (.seq (.ops o27_9) (.ret)) (.skip))) (.seq (.ops o27_13) (.ret))))
def a27 : AFun := ⟨15, [.tmp 4, .tmp 5], c27_0⟩
/-! #### cell.Memory.Cas -/
def o28_1 : List AOper := [⟨some 8, .mv (.const (.bool false)), none⟩]
def o28_3 : List AOper := [⟨some 10, .mv (.tmp 0), none⟩,
  ⟨some 11, .mv (.tmp 1), none⟩,
  ⟨some 12, .call false (.func 51) [.tmp 10, .tmp 11] [(false, [.ptr])] true, none⟩,
  ⟨some 9, .mv (.tmp 12), none⟩]
def o28_6 : List AOper := [⟨some 13, .mv (.tmp 9), none⟩,
  ⟨some 14, .eqNil 0 false (.tmp 13), none⟩,
  ⟨some 15, .mv (.tmp 14), none⟩,
  ⟨some 16, .mv (.tmp 9), some (15, false)⟩,
  ⟨some 17, .nilCheck (.tmp 16), some (15, false)⟩,
  ⟨some 18, .load false [.int .u64] (.tmp 17), some (15, false)⟩,
  ⟨some 19, .mv (.tmp 2), some (15, false)⟩,
  ⟨some 20, .bin .neq (.tmp 18) (.tmp 19), some (15, false)⟩,
  ⟨some 21, .pick (.tmp 15) (.const (.bool true)) (.tmp 20), none⟩]
def o28_9 : List AOper := [⟨some 8, .mv (.const (.bool false)), none⟩]
def o28_13 : List AOper := [⟨some 22, .mv (.tmp 9), none⟩,
  ⟨some 23, .mv (.tmp 3), none⟩,
  ⟨some 24, .nilCheck (.tmp 22), none⟩,
  ⟨none, .store 1 (.tmp 24) (.tmp 23), none⟩]
def o28_15 : List AOper := [⟨some 25, .mv (.tmp 0), none⟩,
  ⟨some 26, .nilCheck (.tmp 25), none⟩,
  ⟨some 27, .fieldAddr 3 (.tmp 26), none⟩,
  ⟨some 28, .load false [.int .i64] (.tmp 27), none⟩,
  ⟨some 29, .bin .add (.tmp 28) (.const (.int .i64 1)), none⟩,
  ⟨some 30, .nilCheck (.tmp 25), none⟩,
  ⟨some 31, .fieldAddr 3 (.tmp 30), none⟩,
  ⟨none, .store 1 (.tmp 31) (.tmp 29), none⟩]
def o28_17 : List AOper := [⟨some 8, .mv (.const (.bool true)), none⟩]
def c28_0 : ACode := .seq (.ops o28_1) (.seq (.ops o28_3) (.seq (.seq (.ops o28_6) (.cond (.tmp 21) (.seq (.ops o28_9) (.ret)) (.skip))) (.seq (.ops o28_13) (.seq (.ops o28_15) (.seq (.ops o28_17) (.ret))))))
def a28 : AFun := ⟨32, [.tmp 8], c28_0⟩
/-! #### skylightref30.Memory.Cas -/
def o29_1 : List AOper := [⟨some 8, .mv (.const (.bool false)), none⟩]
def o29_3 : List AOper := [⟨some 9, .mv (.tmp 0), none⟩,
  ⟨some 10, .nilCheck (.tmp 9), none⟩,
  ⟨some 11, .fieldAddr 1 (.tmp 10), none⟩,
  ⟨some 12, .load false [.int .i64] (.tmp 11), none⟩,
  ⟨some 13, .bin .add (.tmp 12) (.const (.int .i64 1)), none⟩,
  ⟨some 14, .nilCheck (.tmp 9), none⟩,
  ⟨some 15, .fieldAddr 1 (.tmp 14), none⟩,
  ⟨none, .store 1 (.tmp 15) (.tmp 13), none⟩]
def o29_6 : List AOper := [⟨some 16, .mv (.tmp 1), none⟩,
  ⟨some 17, .bin .lss (.tmp 16) (.const (.int .i64 0)), none⟩,
  ⟨some 18, .mv (.tmp 17), none⟩,
  ⟨some 19, .mv (.tmp 1), some (18, false)⟩,
  ⟨some 20, .mv (.tmp 0), some (18, false)⟩,
  ⟨some 21, .nilCheck (.tmp 20), some (18, false)⟩,
  ⟨some 22, .fieldAddr 0 (.tmp 21), some (18, false)⟩,
  ⟨some 23, .load false [.slice] (.tmp 22), some (18, false)⟩,
  ⟨some 24, .len (.tmp 23), some (18, false)⟩,
  ⟨some 25, .bin .geq (.tmp 19) (.tmp 24), some (18, false)⟩,
  ⟨some 26, .pick (.tmp 18) (.const (.bool true)) (.tmp 25), none⟩,
  ⟨some 27, .mv (.tmp 26), none⟩,
  ⟨some 28, .mv (.tmp 0), some (27, false)⟩,
  ⟨some 29, .nilCheck (.tmp 28), some (27, false)⟩,
  ⟨some 30, .fieldAddr 0 (.tmp 29), some (27, false)⟩,
  ⟨some 31, .load false [.slice] (.tmp 30), some (27, false)⟩,
  ⟨some 32, .mv (.tmp 1), some (27, false)⟩,
  ⟨some 33, .indexAddr 1 (.tmp 31) (.tmp 32), some (27, false)⟩,
  ⟨some 34, .load false [.int .u64] (.tmp 33), some (27, false)⟩,
  ⟨some 35, .mv (.tmp 2), some (27, false)⟩,
  ⟨some 36, .bin .neq (.tmp 34) (.tmp 35), some (27, false)⟩,
  ⟨some 37, .pick (.tmp 27) (.const (.bool true)) (.tmp 36), none⟩]
def o29_9 : List AOper := [⟨some 8, .mv (.const (.bool false)), none⟩]
def o29_13 : List AOper := [⟨some 38, .mv (.tmp 0), none⟩,
  ⟨some 39, .nilCheck (.tmp 38), none⟩,
  ⟨some 40, .fieldAddr 0 (.tmp 39), none⟩,
  ⟨some 41, .load false [.slice] (.tmp 40), none⟩,
  ⟨some 42, .mv (.tmp 1), none⟩,
  ⟨some 43, .mv (.tmp 3), none⟩,
  ⟨some 44, .indexAddr 1 (.tmp 41) (.tmp 42), none⟩,
  ⟨none, .store 1 (.tmp 44) (.tmp 43), none⟩]
def o29_15 : List AOper := [⟨some 45, .mv (.tmp 0), none⟩,
  ⟨some 46, .nilCheck (.tmp 45), none⟩,
  ⟨some 47, .fieldAddr 2 (.tmp 46), none⟩,
  ⟨some 48, .load false [.int .i64] (.tmp 47), none⟩,
  ⟨some 49, .bin .add (.tmp 48) (.const (.int .i64 1)), none⟩,
  ⟨some 50, .nilCheck (.tmp 45), none⟩,
  ⟨some 51, .fieldAddr 2 (.tmp 50), none⟩,
  ⟨none, .store 1 (.tmp 51) (.tmp 49), none⟩]
def o29_17 : List AOper := [⟨some 8, .mv (.const (.bool true)), none⟩]
def c29_0 : ACode := .seq (.ops o29_1) (.seq (.ops o29_3) (.seq (.seq (.ops o29_6) (.cond (.tmp 37) (.seq (.ops o29_9) (.ret)) (.skip))) (.seq (.ops o29_13) (.seq (.ops o29_15) (.seq (.ops o29_17) (.ret))))))
def a29 : AFun := ⟨52, [.tmp 8], c29_0⟩
/-! #### cell.Memory.Steps -/
def o30_1 : List AOper := [⟨some 2, .mv (.const (.int .i64 0)), none⟩]
def o30_4 : List AOper := [⟨some 3, .mv (.tmp 0), none⟩,
  ⟨some 4, .eqNil 0 false (.tmp 3), none⟩]
def o30_7 : List AOper := [⟨some 2, .mv (.const (.int .i64 0)), none⟩]
def o30_11 : List AOper := [⟨some 5, .mv (.tmp 0), none⟩,
  ⟨some 6, .nilCheck (.tmp 5), none⟩,
  ⟨some 7, .fieldAddr 2 (.tmp 6), none⟩,
  ⟨some 8, .load false [.int .i64] (.tmp 7), none⟩,
  ⟨some 2, .mv (.tmp 8), none⟩]
def c30_0 : ACode := .seq (.ops o30_1) (.seq (.seq (.ops o30_4) (.cond (.tmp 4) (.seq (.ops o30_7) (.ret)) (.skip))) (.seq (.ops o30_11) (.ret)))
def a30 : AFun := ⟨9, [.tmp 2], c30_0⟩
/-! #### cell.Memory.Wins -/
def o31_1 : List AOper := [⟨some 2, .mv (.const (.int .i64 0)), none⟩]
def o31_4 : List AOper := [⟨some 3, .mv (.tmp 0), none⟩,
  ⟨some 4, .eqNil 0 false (.tmp 3), none⟩]
def o31_7 : List AOper := [⟨some 2, .mv (.const (.int .i64 0)), none⟩]
def o31_11 : List AOper := [⟨some 5, .mv (.tmp 0), none⟩,
  ⟨some 6, .nilCheck (.tmp 5), none⟩,
  ⟨some 7, .fieldAddr 3 (.tmp 6), none⟩,
  ⟨some 8, .load false [.int .i64] (.tmp 7), none⟩,
  ⟨some 2, .mv (.tmp 8), none⟩]
def c31_0 : ACode := .seq (.ops o31_1) (.seq (.seq (.ops o31_4) (.cond (.tmp 4) (.seq (.ops o31_7) (.ret)) (.skip))) (.seq (.ops o31_11) (.ret)))
def a31 : AFun := ⟨9, [.tmp 2], c31_0⟩
/-! #### cell.Memory.Len -/
def o32_1 : List AOper := [⟨some 2, .mv (.const (.int .i64 0)), none⟩]
def o32_4 : List AOper := [⟨some 3, .mv (.tmp 0), none⟩,
  ⟨some 4, .eqNil 0 false (.tmp 3), none⟩]
def o32_7 : List AOper := [⟨some 2, .mv (.const (.int .i64 0)), none⟩]
def o32_11 : List AOper := [⟨some 5, .mv (.tmp 0), none⟩,
  ⟨some 6, .nilCheck (.tmp 5), none⟩,
  ⟨some 7, .fieldAddr 1 (.tmp 6), none⟩,
  ⟨some 8, .load false [.slice] (.tmp 7), none⟩,
  ⟨some 9, .len (.tmp 8), none⟩,
  ⟨some 2, .mv (.tmp 9), none⟩]
def c32_0 : ACode := .seq (.ops o32_1) (.seq (.seq (.ops o32_4) (.cond (.tmp 4) (.seq (.ops o32_7) (.ret)) (.skip))) (.seq (.ops o32_11) (.ret)))
def a32 : AFun := ⟨10, [.tmp 2], c32_0⟩
/-! #### cell.Memory.Cells -/
def o33_1 : List AOper := [⟨some 6, .mv (.const (.slice none 0 0)), none⟩]
def o33_3 : List AOper := [⟨some 9, .mv (.tmp 0), none⟩,
  ⟨some 10, .call false (.func 32) [.tmp 9] [(false, [.int .i64])] true, none⟩,
  ⟨some 7, .mv (.tmp 10), none⟩]
def o33_6 : List AOper := [⟨some 11, .mv (.tmp 1), none⟩,
  ⟨some 12, .bin .lss (.tmp 11) (.const (.int .i64 0)), none⟩,
  ⟨some 13, .mv (.tmp 12), none⟩,
  ⟨some 14, .mv (.tmp 2), some (13, false)⟩,
  ⟨some 15, .bin .lss (.tmp 14) (.const (.int .i64 0)), some (13, false)⟩,
  ⟨some 16, .pick (.tmp 13) (.const (.bool true)) (.tmp 15), none⟩,
  ⟨some 17, .mv (.tmp 16), none⟩,
  ⟨some 18, .mv (.tmp 1), some (17, false)⟩,
  ⟨some 19, .mv (.tmp 7), some (17, false)⟩,
  ⟨some 20, .bin .geq (.tmp 18) (.tmp 19), some (17, false)⟩,
  ⟨some 21, .pick (.tmp 17) (.const (.bool true)) (.tmp 20), none⟩]
def o33_9 : List AOper := [⟨some 6, .mv (.const (.slice none 0 0)), none⟩]
def o33_13 : List AOper := [⟨some 22, .mv (.tmp 2), none⟩,
  ⟨some 23, .mv (.tmp 7), none⟩,
  ⟨some 24, .mv (.tmp 1), none⟩,
  ⟨some 25, .bin .sub (.tmp 23) (.tmp 24), none⟩,
  ⟨some 26, .minmax false [.tmp 22, .tmp 25], none⟩,
  ⟨some 27, .makeSlice 1 8 [.int .u64 0] (.tmp 26) (.tmp 26), none⟩,
  ⟨some 8, .mv (.tmp 27), none⟩]
def o33_15 : List AOper := [⟨some 28, .mv (.tmp 8), none⟩,
  ⟨some 29, .mv (.tmp 0), none⟩,
  ⟨some 30, .nilCheck (.tmp 29), none⟩,
  ⟨some 31, .fieldAddr 1 (.tmp 30), none⟩,
  ⟨some 32, .load false [.slice] (.tmp 31), none⟩,
  ⟨some 33, .mv (.tmp 1), none⟩,
  ⟨some 34, .slice 1 (.tmp 32) (some (.tmp 33)) none, none⟩,
  ⟨some 35, .copy 1 (.tmp 28) (.tmp 34), none⟩]
def o33_17 : List AOper := [⟨some 36, .mv (.tmp 8), none⟩,
  ⟨some 6, .mv (.tmp 36), none⟩]
def c33_0 : ACode := .seq (.ops o33_1) (.seq (.ops o33_3) (.seq (.seq (.ops o33_6) (.cond (.tmp 21) (.seq (.ops o33_9) (.ret)) (.skip))) (.seq (.ops o33_13) (.seq (.ops o33_15) (.seq (.ops o33_17) (.ret))))))
def a33 : AFun := ⟨37, [.tmp 6], c33_0⟩
/-! #### skylightlaw30.same -/
def o34_1 : List AOper := [⟨some 4, .mv (.const (.bool false)), none⟩]
def o34_4 : List AOper := [⟨some 6, .mv (.tmp 0), none⟩,
  ⟨some 7, .len (.tmp 6), none⟩,
  ⟨some 8, .mv (.tmp 1), none⟩,
  ⟨some 9, .len (.tmp 8), none⟩,
  ⟨some 10, .bin .neq (.tmp 7) (.tmp 9), none⟩]
def o34_7 : List AOper := [⟨some 4, .mv (.const (.bool false)), none⟩]
def o34_12 : List AOper := [⟨some 5, .mv (.const (.int .i64 0)), none⟩]
def o34_17 : List AOper := [⟨some 11, .mv (.tmp 5), none⟩,
  ⟨some 12, .mv (.tmp 0), none⟩,
  ⟨some 13, .len (.tmp 12), none⟩,
  ⟨some 14, .bin .lss (.tmp 11) (.tmp 13), none⟩]
def o34_24 : List (AOper × Option Nat) := [(⟨some 17, .mv (.tmp 0), none⟩, none),
  (⟨some 18, .mv (.tmp 5), none⟩, none),
  (⟨some 19, .indexAddr 1 (.tmp 17) (.tmp 18), none⟩, none),
  (⟨some 20, .load false [.int .u64] (.tmp 19), none⟩, none),
  (⟨some 21, .mv (.tmp 1), none⟩, none),
  (⟨some 22, .mv (.tmp 5), none⟩, none),
  (⟨some 23, .indexAddr 1 (.tmp 21) (.tmp 22), none⟩, none),
  (⟨some 24, .load false [.int .u64] (.tmp 23), none⟩, none),
  (⟨some 25, .bin .neq (.tmp 20) (.tmp 24), none⟩, none)]
def o34_27 : List AOper := [⟨some 4, .mv (.const (.bool false)), none⟩]
def o34_30 : List AOper := [⟨some 15, .mv (.tmp 5), none⟩,
  ⟨some 16, .bin .add (.tmp 15) (.const (.int .i64 1)), none⟩,
  ⟨some 5, .mv (.tmp 16), none⟩]
def c34_30 : ACode := .ops o34_30
def b34_14 : ACode := .post (.seq (.seq (.ops o34_17) (.cond (.tmp 14) (.skip) (.exit 0))) (.seq (.block 1 (.seq (.draw [] 0 o34_24 []) (.cond (.tmp 25) (.seq (.ops o34_27) (.ret)) (.skip)))) (.clear [2, 3, 4, 6, 7, 8, 9, 10, 11, 12, 13, 14, 15, 16, 17, 18, 19, 20, 21, 22, 23, 24, 25] c34_30))) [2, 3, 4, 6, 7, 8, 9, 10, 11, 12, 13, 14, 15, 16, 17, 18, 19, 20, 21, 22, 23, 24, 25]
def o34_32 : List AOper := [⟨some 4, .mv (.const (.bool true)), none⟩]
def c34_31 : ACode := .seq (.ops o34_32) (.ret)
def c34_0 : ACode := .seq (.ops o34_1) (.seq (.seq (.ops o34_4) (.cond (.tmp 10) (.seq (.ops o34_7) (.ret)) (.skip))) (.seq (.seq (.ops o34_12) (.block 0 (.clear [2, 3, 4, 6, 7, 8, 9, 10, 11, 12, 13, 14, 15, 16, 17, 18, 19, 20, 21, 22, 23, 24, 25] (.loop b34_14)))) (.clear [0, 1, 2, 3, 4, 5, 6, 7, 8, 9, 10, 11, 12, 13, 14, 15, 16, 17, 18, 19, 20, 21, 22, 23, 24, 25] c34_31)))
def a34 : AFun := ⟨26, [.tmp 4], c34_0⟩
/-! #### skylightref30.Memory.Cells -/
def o35_1 : List AOper := [⟨some 6, .mv (.const (.slice none 0 0)), none⟩]
def o35_3 : List AOper := [⟨some 7, .mv (.const (.slice none 0 0)), none⟩]
def o35_6 : List AOper := [⟨some 8, .mv (.const (.int .i64 0)), none⟩]
def o35_11 : List AOper := [⟨some 9, .mv (.tmp 8), none⟩,
  ⟨some 10, .mv (.tmp 0), none⟩,
  ⟨some 11, .nilCheck (.tmp 10), none⟩,
  ⟨some 12, .fieldAddr 0 (.tmp 11), none⟩,
  ⟨some 13, .load false [.slice] (.tmp 12), none⟩,
  ⟨some 14, .len (.tmp 13), none⟩,
  ⟨some 15, .bin .lss (.tmp 9) (.tmp 14), none⟩]
def o35_18 : List AOper := [⟨some 18, .mv (.tmp 1), none⟩,
  ⟨some 19, .bin .geq (.tmp 18) (.const (.int .i64 0)), none⟩,
  ⟨some 20, .mv (.tmp 19), none⟩,
  ⟨some 21, .mv (.tmp 2), some (20, true)⟩,
  ⟨some 22, .bin .geq (.tmp 21) (.const (.int .i64 0)), some (20, true)⟩,
  ⟨some 23, .pick (.tmp 20) (.tmp 22) (.const (.bool false)), none⟩,
  ⟨some 24, .mv (.tmp 23), none⟩,
  ⟨some 25, .mv (.tmp 8), some (24, true)⟩,
  ⟨some 26, .mv (.tmp 1), some (24, true)⟩,
  ⟨some 27, .bin .geq (.tmp 25) (.tmp 26), some (24, true)⟩,
  ⟨some 28, .pick (.tmp 24) (.tmp 27) (.const (.bool false)), none⟩,
  ⟨some 29, .mv (.tmp 28), none⟩,
  ⟨some 30, .mv (.tmp 8), some (29, true)⟩,
  ⟨some 31, .mv (.tmp 1), some (29, true)⟩,
  ⟨some 32, .bin .sub (.tmp 30) (.tmp 31), some (29, true)⟩,
  ⟨some 33, .mv (.tmp 2), some (29, true)⟩,
  ⟨some 34, .bin .lss (.tmp 32) (.tmp 33), some (29, true)⟩,
  ⟨some 35, .pick (.tmp 29) (.tmp 34) (.const (.bool false)), none⟩]
def o35_20 : List AOper := [⟨some 36, .mv (.tmp 7), none⟩,
  ⟨some 37, .mv (.tmp 0), none⟩,
  ⟨some 38, .nilCheck (.tmp 37), none⟩,
  ⟨some 39, .fieldAddr 0 (.tmp 38), none⟩,
  ⟨some 40, .load false [.slice] (.tmp 39), none⟩,
  ⟨some 41, .mv (.tmp 8), none⟩,
  ⟨some 42, .indexAddr 1 (.tmp 40) (.tmp 41), none⟩,
  ⟨some 43, .load false [.int .u64] (.tmp 42), none⟩,
  ⟨some 44, .buildSlice 1 1 [.int .u64 0] [(0, 1, .tmp 43)], none⟩,
  ⟨some 45, .append 1 8 (.tmp 36) (.tmp 44), none⟩,
  ⟨some 7, .mv (.tmp 45), none⟩]
def o35_22 : List AOper := [⟨some 16, .mv (.tmp 8), none⟩,
  ⟨some 17, .bin .add (.tmp 16) (.const (.int .i64 1)), none⟩,
  ⟨some 8, .mv (.tmp 17), none⟩]
def c35_22 : ACode := .ops o35_22
def b35_8 : ACode := .post (.seq (.seq (.ops o35_11) (.cond (.tmp 15) (.skip) (.exit 0))) (.seq (.block 1 (.seq (.ops o35_18) (.cond (.tmp 35) (.ops o35_20) (.skip)))) (.clear [3, 4, 5, 6, 9, 10, 11, 12, 13, 14, 15, 16, 17, 18, 19, 20, 21, 22, 23, 24, 25, 26, 27, 28, 29, 30, 31, 32, 33, 34, 35, 36, 37, 38, 39, 40, 41, 42, 43, 44, 45, 46] c35_22))) [3, 4, 5, 6, 9, 10, 11, 12, 13, 14, 15, 16, 17, 18, 19, 20, 21, 22, 23, 24, 25, 26, 27, 28, 29, 30, 31, 32, 33, 34, 35, 36, 37, 38, 39, 40, 41, 42, 43, 44, 45, 46]
def o35_24 : List AOper := [⟨some 46, .mv (.tmp 7), none⟩,
  ⟨some 6, .mv (.tmp 46), none⟩]
def c35_23 : ACode := .seq (.ops o35_24) (.ret)
def c35_0 : ACode := .seq (.ops o35_1) (.seq (.ops o35_3) (.seq (.seq (.ops o35_6) (.block 0 (.clear [3, 4, 5, 6, 9, 10, 11, 12, 13, 14, 15, 16, 17, 18, 19, 20, 21, 22, 23, 24, 25, 26, 27, 28, 29, 30, 31, 32, 33, 34, 35, 36, 37, 38, 39, 40, 41, 42, 43, 44, 45, 46] (.loop b35_8)))) (.clear [0, 1, 2, 3, 4, 5, 6, 8, 9, 10, 11, 12, 13, 14, 15, 16, 17, 18, 19, 20, 21, 22, 23, 24, 25, 26, 27, 28, 29, 30, 31, 32, 33, 34, 35, 36, 37, 38, 39, 40, 41, 42, 43, 44, 45, 46] c35_23)))
def a35 : AFun := ⟨47, [.tmp 6], c35_0⟩
/-! #### skylightref31.Size -/
def o36_1 : List AOper := [⟨some 1, .box (.tmp 0), none⟩,
  ⟨some 2, .mv (.const (.int .i64 0)), none⟩]
def o36_4 : List AOper := [⟨some 3, .load true [.int .i64, .int .i64] (.tmp 1), none⟩,
  ⟨some 4, .call true (.func 12) [.tmp 3] [(false, [.bool])] true, none⟩,
  ⟨some 5, .un .not (.tmp 4), none⟩]
def o36_7 : List AOper := [⟨some 2, .mv (.const (.int .i64 0)), none⟩]
def o36_11 : List AOper := [⟨some 6, .fieldAddr 1 (.tmp 1), none⟩,
  ⟨some 7, .load false [.int .i64] (.tmp 6), none⟩,
  ⟨some 8, .bin .mul (.const (.int .i64 2)) (.tmp 7), none⟩,
  ⟨some 9, .bin .add (.const (.int .i64 1)) (.tmp 8), none⟩,
  ⟨some 10, .fieldAddr 0 (.tmp 1), none⟩,
  ⟨some 11, .load false [.int .i64] (.tmp 10), none⟩,
  ⟨some 12, .bin .mul (.const (.int .i64 3)) (.tmp 11), none⟩,
  ⟨some 13, .bin .add (.tmp 9) (.tmp 12), none⟩,
  ⟨some 2, .mv (.tmp 13), none⟩]
def c36_0 : ACode := .seq (.ops o36_1) (.seq (.seq (.ops o36_4) (.cond (.tmp 5) (.seq (.ops o36_7) (.ret)) (.skip))) (.seq (.ops o36_11) (.ret)))
def a36 : AFun := ⟨14, [.tmp 2], c36_0⟩
/-! #### layout.Film -/
def o37_1 : List AOper := [⟨some 2, .box (.tmp 0), none⟩,
  ⟨some 4, .mv (.const (.slice none 0 0)), none⟩]
def o37_4 : List (AOper × Option Nat) := [(⟨some 8, .load true [.int .i64, .int .i64] (.tmp 2), none⟩, none),
  (⟨some 9, .call true (.func 15) [.tmp 8] [(false, [.bool])] true, none⟩, none),
  (⟨some 10, .un .not (.tmp 9), none⟩, none),
  (⟨some 11, .mv (.tmp 10), none⟩, none),
  (⟨some 12, .mv (.tmp 1), some (11, false)⟩, none),
  (⟨some 13, .call false (.func 32) [.tmp 12] [(false, [.int .i64])] true, some (11, false)⟩, none),
  (⟨some 14, .load true [.int .i64, .int .i64] (.tmp 2), some (11, false)⟩, none),
  (⟨some 15, .call true (.func 16) [.tmp 14] [(false, [.int .i64])] true, some (11, false)⟩, none),
  (⟨some 16, .bin .neq (.tmp 13) (.tmp 15), some (11, false)⟩, none),
  (⟨some 17, .pick (.tmp 11) (.const (.bool true)) (.tmp 16), none⟩, none)]
def o37_7 : List AOper := [⟨some 4, .mv (.const (.slice none 0 0)), none⟩]
def o37_11 : List (AOper × Option Nat) := [(⟨some 18, .mv (.tmp 1), none⟩, none),
  (⟨some 19, .load true [.int .i64, .int .i64] (.tmp 2), none⟩, none),
  (⟨some 20, .call true (.func 49) [.tmp 19, .const (.int .i64 4)] [(false, [.int .i64])] true, none⟩, none),
  (⟨some 21, .fieldAddr 0 (.tmp 2), none⟩, none),
  (⟨some 22, .load false [.int .i64] (.tmp 21), none⟩, none),
  (⟨some 23, .bin .mul (.const (.int .i64 3)) (.tmp 22), none⟩, none),
  (⟨some 24, .call false (.func 33) [.tmp 18, .tmp 20, .tmp 23] [(false, [.slice])] true, none⟩, none),
  (⟨some 5, .mv (.tmp 24), none⟩, none)]
def o37_13 : List AOper := [⟨some 25, .fieldAddr 0 (.tmp 2), none⟩,
  ⟨some 26, .load false [.int .i64] (.tmp 25), none⟩,
  ⟨some 27, .makeSlice 3 24 [.int .u64 0, .int .u64 0, .int .u64 0] (.tmp 26) (.tmp 26), none⟩,
  ⟨some 6, .mv (.tmp 27), none⟩]
def o37_16 : List AOper := [⟨some 28, .mv (.tmp 6), none⟩,
  ⟨some 29, .len (.tmp 28), none⟩,
  ⟨some 30, .mv (.const (.int .i64 0)), none⟩]
def o37_20 : List AOper := [⟨some 31, .bin .lss (.tmp 30) (.tmp 29), none⟩]
def o37_28 : List AOper := [⟨some 32, .mv (.tmp 30), none⟩,
  ⟨some 7, .mv (.tmp 32), none⟩]
def o37_29 : List (AOper × Option Nat) := [(⟨some 33, .mv (.tmp 6), none⟩, none),
  (⟨some 34, .mv (.tmp 7), none⟩, none),
  (⟨some 35, .indexAddr 3 (.tmp 33) (.tmp 34), none⟩, none),
  (⟨some 36, .sliceArr 3 1 (.tmp 35) none none, none⟩, none),
  (⟨some 37, .mv (.tmp 5), none⟩, none),
  (⟨some 38, .mv (.tmp 7), none⟩, none),
  (⟨some 39, .bin .mul (.const (.int .i64 3)) (.tmp 38), none⟩, none),
  (⟨some 40, .slice 1 (.tmp 37) (some (.tmp 39)) none, none⟩, none),
  (⟨some 41, .copy 1 (.tmp 36) (.tmp 40), none⟩, none)]
def o37_30 : List AOper := [⟨some 42, .bin .add (.tmp 30) (.const (.int .i64 1)), none⟩,
  ⟨some 30, .mv (.tmp 42), none⟩]
def c37_30 : ACode := .ops o37_30
def b37_18 : ACode := .post (.seq (.ops o37_20) (.seq (.cond (.tmp 31) (.skip) (.exit 0)) (.seq (.block 1 (.seq (.ops o37_28) (.draw [] 0 o37_29 []))) (.clear [0, 1, 2, 3, 4, 7, 8, 9, 10, 11, 12, 13, 14, 15, 16, 17, 18, 19, 20, 21, 22, 23, 24, 25, 26, 27, 28, 31, 32, 33, 34, 35, 36, 37, 38, 39, 40, 41, 42, 43] c37_30)))) [0, 1, 2, 3, 4, 7, 8, 9, 10, 11, 12, 13, 14, 15, 16, 17, 18, 19, 20, 21, 22, 23, 24, 25, 26, 27, 28, 31, 32, 33, 34, 35, 36, 37, 38, 39, 40, 41, 42, 43]
def o37_32 : List AOper := [⟨some 43, .mv (.tmp 6), none⟩,
  ⟨some 4, .mv (.tmp 43), none⟩]
def c37_31 : ACode := .seq (.ops o37_32) (.ret)
def c37_0 : ACode := .seq (.ops o37_1) (.seq (.seq (.draw [] 0 o37_4 [(6, 5)]) (.cond (.tmp 17) (.seq (.ops o37_7) (.ret)) (.skip))) (.seq (.draw [] 0 o37_11 []) (.seq (.ops o37_13) (.seq (.seq (.ops o37_16) (.block 0 (.clear [0, 1, 2, 3, 4, 7, 8, 9, 10, 11, 12, 13, 14, 15, 16, 17, 18, 19, 20, 21, 22, 23, 24, 25, 26, 27, 28, 31, 32, 33, 34, 35, 36, 37, 38, 39, 40, 41, 42, 43] (.loop b37_18)))) (.clear [0, 1, 2, 3, 4, 5, 7, 8, 9, 10, 11, 12, 13, 14, 15, 16, 17, 18, 19, 20, 21, 22, 23, 24, 25, 26, 27, 28, 29, 30, 31, 32, 33, 34, 35, 36, 37, 38, 39, 40, 41, 42, 43] c37_31)))))
def a37 : AFun := ⟨44, [.tmp 4], c37_0⟩
/-! #### skylightref31.Film -/
def o38_1 : List AOper := [⟨some 2, .box (.tmp 0), none⟩,
  ⟨some 4, .mv (.const (.slice none 0 0)), none⟩]
def o38_3 : List AOper := [⟨some 5, .mv (.const (.slice none 0 0)), none⟩]
def o38_6 : List AOper := [⟨some 6, .mv (.const (.int .i64 0)), none⟩]
def o38_11 : List (AOper × Option Nat) := [(⟨some 8, .mv (.tmp 6), none⟩, none),
  (⟨some 9, .fieldAddr 0 (.tmp 2), none⟩, none),
  (⟨some 10, .load false [.int .i64] (.tmp 9), none⟩, none),
  (⟨some 11, .bin .lss (.tmp 8) (.tmp 10), none⟩, none),
  (⟨some 12, .mv (.tmp 11), none⟩, none),
  (⟨some 13, .load true [.int .i64, .int .i64] (.tmp 2), some (12, true)⟩, none),
  (⟨some 14, .call true (.func 12) [.tmp 13] [(false, [.bool])] true, some (12, true)⟩, none),
  (⟨some 15, .pick (.tmp 12) (.tmp 14) (.const (.bool false)), none⟩, none),
  (⟨some 16, .mv (.tmp 15), none⟩, none),
  (⟨some 17, .mv (.tmp 1), some (16, true)⟩, none),
  (⟨some 18, .nilCheck (.tmp 17), some (16, true)⟩, none),
  (⟨some 19, .fieldAddr 0 (.tmp 18), some (16, true)⟩, none),
  (⟨some 20, .load false [.slice] (.tmp 19), some (16, true)⟩, none),
  (⟨some 21, .len (.tmp 20), some (16, true)⟩, none),
  (⟨some 22, .load true [.int .i64, .int .i64] (.tmp 2), some (16, true)⟩, none),
  (⟨some 23, .call true (.func 36) [.tmp 22] [(false, [.int .i64])] true, some (16, true)⟩, none),
  (⟨some 24, .bin .eql (.tmp 21) (.tmp 23), some (16, true)⟩, none),
  (⟨some 25, .pick (.tmp 16) (.tmp 24) (.const (.bool false)), none⟩, none)]
def o38_18 : List AOper := [⟨some 28, .load true [.int .i64, .int .i64] (.tmp 2), none⟩,
  ⟨some 29, .mv (.tmp 6), none⟩,
  ⟨some 30, .build [.int .i64 0, .int .i64 0, .int .i64 0] [(0, 1, .const (.int .i64 4)), (1, 1, .tmp 29)], none⟩,
  ⟨some 31, .call true (.func 52) [.tmp 28, .tmp 30] [(false, [.int .i64])] true, none⟩,
  ⟨some 7, .mv (.tmp 31), none⟩]
def o38_19 : List (AOper × Option Nat) := [(⟨some 32, .mv (.tmp 5), none⟩, none),
  (⟨some 33, .mv (.tmp 1), none⟩, none),
  (⟨some 34, .nilCheck (.tmp 33), none⟩, none),
  (⟨some 35, .fieldAddr 0 (.tmp 34), none⟩, none),
  (⟨some 36, .load false [.slice] (.tmp 35), none⟩, none),
  (⟨some 37, .mv (.tmp 7), none⟩, none),
  (⟨some 38, .indexAddr 1 (.tmp 36) (.tmp 37), none⟩, none),
  (⟨some 39, .load false [.int .u64] (.tmp 38), none⟩, none),
  (⟨some 40, .mv (.tmp 1), none⟩, none),
  (⟨some 41, .nilCheck (.tmp 40), none⟩, none),
  (⟨some 42, .fieldAddr 0 (.tmp 41), none⟩, none),
  (⟨some 43, .load false [.slice] (.tmp 42), none⟩, none),
  (⟨some 44, .mv (.tmp 7), none⟩, none),
  (⟨some 45, .bin .add (.tmp 44) (.const (.int .i64 1)), none⟩, none),
  (⟨some 46, .indexAddr 1 (.tmp 43) (.tmp 45), none⟩, none),
  (⟨some 47, .load false [.int .u64] (.tmp 46), none⟩, none),
  (⟨some 48, .mv (.tmp 1), none⟩, none),
  (⟨some 49, .nilCheck (.tmp 48), none⟩, none),
  (⟨some 50, .fieldAddr 0 (.tmp 49), none⟩, none),
  (⟨some 51, .load false [.slice] (.tmp 50), none⟩, none),
  (⟨some 52, .mv (.tmp 7), none⟩, none),
  (⟨some 53, .bin .add (.tmp 52) (.const (.int .i64 2)), none⟩, none),
  (⟨some 54, .indexAddr 1 (.tmp 51) (.tmp 53), none⟩, none),
  (⟨some 55, .load false [.int .u64] (.tmp 54), none⟩, none),
  (⟨some 56, .build [.int .u64 0, .int .u64 0, .int .u64 0] [(0, 1, .tmp 39), (1, 1, .tmp 47), (2, 1, .tmp 55)], none⟩, none),
  (⟨some 57, .buildSlice 3 1 [.int .u64 0, .int .u64 0, .int .u64 0] [(0, 3, .tmp 56)], none⟩, none),
  (⟨some 58, .append 3 24 (.tmp 32) (.tmp 57), none⟩, none),
  (⟨some 5, .mv (.tmp 58), none⟩, none)]
def o38_20 : List AOper := [⟨some 26, .mv (.tmp 6), none⟩,
  ⟨some 27, .bin .add (.tmp 26) (.const (.int .i64 1)), none⟩,
  ⟨some 6, .mv (.tmp 27), none⟩]
def c38_20 : ACode := .ops o38_20
def b38_8 : ACode := .post (.seq (.seq (.draw [] 0 o38_11 []) (.cond (.tmp 25) (.skip) (.exit 0))) (.seq (.block 1 (.seq (.ops o38_18) (.draw [] 0 o38_19 []))) (.clear [0, 3, 4, 7, 8, 9, 10, 11, 12, 13, 14, 15, 16, 17, 18, 19, 20, 21, 22, 23, 24, 25, 26, 27, 28, 29, 30, 31, 32, 33, 34, 35, 36, 37, 38, 39, 40, 41, 42, 43, 44, 45, 46, 47, 48, 49, 50, 51, 52, 53, 54, 55, 56, 57, 58, 59] c38_20))) [0, 3, 4, 7, 8, 9, 10, 11, 12, 13, 14, 15, 16, 17, 18, 19, 20, 21, 22, 23, 24, 25, 26, 27, 28, 29, 30, 31, 32, 33, 34, 35, 36, 37, 38, 39, 40, 41, 42, 43, 44, 45, 46, 47, 48, 49, 50, 51, 52, 53, 54, 55, 56, 57, 58, 59]
def o38_22 : List AOper := [⟨some 59, .mv (.tmp 5), none⟩,
  ⟨some 4, .mv (.tmp 59), none⟩]
def c38_21 : ACode := .seq (.ops o38_22) (.ret)
def c38_0 : ACode := .seq (.ops o38_1) (.seq (.ops o38_3) (.seq (.seq (.ops o38_6) (.block 0 (.clear [0, 3, 4, 7, 8, 9, 10, 11, 12, 13, 14, 15, 16, 17, 18, 19, 20, 21, 22, 23, 24, 25, 26, 27, 28, 29, 30, 31, 32, 33, 34, 35, 36, 37, 38, 39, 40, 41, 42, 43, 44, 45, 46, 47, 48, 49, 50, 51, 52, 53, 54, 55, 56, 57, 58, 59] (.loop b38_8)))) (.clear [0, 1, 2, 3, 4, 6, 7, 8, 9, 10, 11, 12, 13, 14, 15, 16, 17, 18, 19, 20, 21, 22, 23, 24, 25, 26, 27, 28, 29, 30, 31, 32, 33, 34, 35, 36, 37, 38, 39, 40, 41, 42, 43, 44, 45, 46, 47, 48, 49, 50, 51, 52, 53, 54, 55, 56, 57, 58, 59] c38_21)))
def a38 : AFun := ⟨60, [.tmp 4], c38_0⟩
/-! #### morton.Of -/
def o39_1 : List AOper := [⟨some 4, .mv (.const (.int .i64 0)), none⟩]
def o39_4 : List AOper := [⟨some 5, .mv (.tmp 0), none⟩,
  ⟨some 6, .mv (.tmp 1), none⟩,
  ⟨some 7, .buildSlice 1 2 [.int .i64 0, .int .i64 0] [(0, 1, .tmp 5), (1, 1, .tmp 6)], none⟩,
  ⟨some 8, .call false (.func 53) [.const (.int .i64 65536), .tmp 7] [(false, [.bool])] true, none⟩,
  ⟨some 9, .un .not (.tmp 8), none⟩]
def o39_7 : List AOper := [⟨some 4, .mv (.const (.int .i64 (-1))), none⟩]
def o39_11 : List AOper := [⟨some 10, .mv (.tmp 0), none⟩,
  ⟨some 11, .call true (.func 54) [.tmp 10] [(false, [.int .i64])] true, none⟩,
  ⟨some 12, .mv (.tmp 1), none⟩,
  ⟨some 13, .call true (.func 54) [.tmp 12] [(false, [.int .i64])] true, none⟩,
  ⟨some 14, .bin .shl (.tmp 13) (.const (.int .u64 1)), none⟩,
  ⟨some 15, .bin .or (.tmp 11) (.tmp 14), none⟩,
  ⟨some 4, .mv (.tmp 15), none⟩]
def c39_0 : ACode := .seq (.ops o39_1) (.seq (.seq (.ops o39_4) (.cond (.tmp 9) (.seq (.ops o39_7) (.ret)) (.skip))) (.seq (.ops o39_11) (.ret)))
def a39 : AFun := ⟨16, [.tmp 4], c39_0⟩
/-! #### morton.Back -/
def o40_1 : List AOper := [⟨some 2, .mv (.const (.int .i64 0)), none⟩,
  ⟨some 3, .mv (.const (.int .i64 0)), none⟩]
def o40_4 : List AOper := [⟨some 4, .mv (.tmp 0), none⟩,
  ⟨some 5, .buildSlice 1 1 [.int .i64 0] [(0, 1, .tmp 4)], none⟩,
  ⟨some 6, .call false (.func 53) [.const (.int .i64 4294967296), .tmp 5] [(false, [.bool])] true, none⟩,
  ⟨some 7, .un .not (.tmp 6), none⟩]
def o40_7 : List AOper := [⟨some 2, .mv (.const (.int .i64 (-1))), none⟩,
  ⟨some 3, .mv (.const (.int .i64 (-1))), none⟩]
def o40_11 : List AOper := [⟨some 8, .mv (.tmp 0), none⟩,
  ⟨some 9, .call true (.func 55) [.tmp 8] [(false, [.int .i64])] true, none⟩,
  ⟨some 10, .mv (.tmp 0), none⟩,
  ⟨some 11, .bin .shr (.tmp 10) (.const (.int .u64 1)), none⟩,
  ⟨some 12, .call true (.func 55) [.tmp 11] [(false, [.int .i64])] true, none⟩,
  ⟨some 2, .mv (.tmp 9), none⟩,
  ⟨some 3, .mv (.tmp 12), none⟩]
def c40_0 : ACode := .seq (.ops o40_1) (.seq (.seq (.ops o40_4) (.cond (.tmp 7) (.seq (.ops o40_7) (.ret)) (.skip))) (.seq (.ops o40_11) (.ret)))
def a40 : AFun := ⟨13, [.tmp 2, .tmp 3], c40_0⟩
/-! #### morton.Tile -/
def o41_1 : List AOper := [⟨some 4, .mv (.const (.int .i64 0)), none⟩]
def o41_4 : List AOper := [⟨some 5, .mv (.tmp 0), none⟩,
  ⟨some 6, .buildSlice 1 1 [.int .i64 0] [(0, 1, .tmp 5)], none⟩,
  ⟨some 7, .call false (.func 53) [.const (.int .i64 4294967296), .tmp 6] [(false, [.bool])] true, none⟩,
  ⟨some 8, .un .not (.tmp 7), none⟩,
  ⟨some 9, .mv (.tmp 8), none⟩,
  ⟨some 10, .mv (.tmp 1), some (9, false)⟩,
  ⟨some 11, .buildSlice 1 1 [.int .i64 0] [(0, 1, .tmp 10)], some (9, false)⟩,
  ⟨some 12, .call false (.func 53) [.const (.int .i64 17), .tmp 11] [(false, [.bool])] true, some (9, false)⟩,
  ⟨some 13, .un .not (.tmp 12), some (9, false)⟩,
  ⟨some 14, .pick (.tmp 9) (.const (.bool true)) (.tmp 13), none⟩]
def o41_7 : List AOper := [⟨some 4, .mv (.const (.int .i64 (-1))), none⟩]
def o41_11 : List AOper := [⟨some 15, .mv (.tmp 0), none⟩,
  ⟨some 16, .mv (.tmp 1), none⟩,
  ⟨some 17, .bin .mul (.const (.int .i64 2)) (.tmp 16), none⟩,
  ⟨some 18, .bin .shr (.tmp 15) (.tmp 17), none⟩,
  ⟨some 4, .mv (.tmp 18), none⟩]
def c41_0 : ACode := .seq (.ops o41_1) (.seq (.seq (.ops o41_4) (.cond (.tmp 14) (.seq (.ops o41_7) (.ret)) (.skip))) (.seq (.ops o41_11) (.ret)))
def a41 : AFun := ⟨19, [.tmp 4], c41_0⟩
/-! #### skylightlaw46.awake -/
def o42_1 : List AOper := [⟨some 0, .mv (.const (.bool false)), none⟩]
def o42_3 : List AOper := [⟨some 4, .call true (.func 40) [.const (.int .i64 8)] [(false, [.int .i64]), (false, [.int .i64])] false, none⟩,
  ⟨some 3, .mv (.tmp 4), none⟩,
  ⟨some 5, .extract (.tmp 3) 0, none⟩,
  ⟨some 6, .extract (.tmp 3) 1, none⟩,
  ⟨some 1, .mv (.tmp 5), none⟩,
  ⟨some 2, .mv (.tmp 6), none⟩]
def o42_5 : List AOper := [⟨some 7, .call true (.func 39) [.const (.int .i64 3), .const (.int .i64 1)] [(false, [.int .i64])] true, none⟩,
  ⟨some 8, .bin .eql (.tmp 7) (.const (.int .i64 7)), none⟩,
  ⟨some 9, .mv (.tmp 8), none⟩,
  ⟨some 10, .mv (.tmp 1), some (9, true)⟩,
  ⟨some 11, .bin .eql (.tmp 10) (.const (.int .i64 0)), some (9, true)⟩,
  ⟨some 12, .pick (.tmp 9) (.tmp 11) (.const (.bool false)), none⟩,
  ⟨some 13, .mv (.tmp 12), none⟩,
  ⟨some 14, .mv (.tmp 2), some (13, true)⟩,
  ⟨some 15, .bin .eql (.tmp 14) (.const (.int .i64 2)), some (13, true)⟩,
  ⟨some 16, .pick (.tmp 13) (.tmp 15) (.const (.bool false)), none⟩,
  ⟨some 17, .mv (.tmp 16), none⟩,
  ⟨some 18, .call true (.func 39) [.const (.int .i64 (-1)), .const (.int .i64 0)] [(false, [.int .i64])] true, some (17, true)⟩,
  ⟨some 19, .bin .eql (.tmp 18) (.const (.int .i64 (-1))), some (17, true)⟩,
  ⟨some 20, .pick (.tmp 17) (.tmp 19) (.const (.bool false)), none⟩,
  ⟨some 21, .mv (.tmp 20), none⟩,
  ⟨some 22, .call false (.func 46) [.const (.int .i64 3), .const (.int .i64 2)] [(false, [.slice])] true, some (21, true)⟩,
  ⟨some 23, .len (.tmp 22), some (21, true)⟩,
  ⟨some 24, .bin .eql (.tmp 23) (.const (.int .i64 6)), some (21, true)⟩,
  ⟨some 25, .pick (.tmp 21) (.tmp 24) (.const (.bool false)), none⟩,
  ⟨some 26, .mv (.tmp 25), none⟩,
  ⟨some 27, .call true (.func 41) [.const (.int .i64 7), .const (.int .i64 1)] [(false, [.int .i64])] true, some (26, true)⟩,
  ⟨some 28, .bin .eql (.tmp 27) (.const (.int .i64 1)), some (26, true)⟩,
  ⟨some 29, .pick (.tmp 26) (.tmp 28) (.const (.bool false)), none⟩,
  ⟨some 0, .mv (.tmp 29), none⟩]
def c42_0 : ACode := .seq (.ops o42_1) (.seq (.ops o42_3) (.seq (.ops o42_5) (.ret)))
def a42 : AFun := ⟨30, [.tmp 0], c42_0⟩
/-! #### skylightref46.Back -/
def o43_1 : List AOper := [⟨some 2, .mv (.const (.int .i64 0)), none⟩,
  ⟨some 3, .mv (.const (.int .i64 0)), none⟩]
def o43_4 : List AOper := [⟨some 7, .mv (.tmp 0), none⟩,
  ⟨some 8, .bin .lss (.tmp 7) (.const (.int .i64 0)), none⟩,
  ⟨some 9, .mv (.tmp 8), none⟩,
  ⟨some 10, .mv (.tmp 0), some (9, false)⟩,
  ⟨some 11, .bin .gtr (.tmp 10) (.const (.int .i64 4294967295)), some (9, false)⟩,
  ⟨some 12, .pick (.tmp 9) (.const (.bool true)) (.tmp 11), none⟩]
def o43_7 : List AOper := [⟨some 2, .mv (.const (.int .i64 (-1))), none⟩,
  ⟨some 3, .mv (.const (.int .i64 (-1))), none⟩]
def o43_11 : List AOper := [⟨some 4, .mv (.const (.int .i64 0)), none⟩,
  ⟨some 5, .mv (.const (.int .i64 0)), none⟩]
def o43_14 : List AOper := [⟨some 6, .mv (.const (.int .i64 0)), none⟩]
def o43_19 : List AOper := [⟨some 13, .mv (.tmp 6), none⟩,
  ⟨some 14, .bin .lss (.tmp 13) (.const (.int .i64 16)), none⟩]
def o43_26 : List AOper := [⟨some 17, .mv (.tmp 4), none⟩,
  ⟨some 18, .mv (.tmp 0), none⟩,
  ⟨some 19, .mv (.tmp 6), none⟩,
  ⟨some 20, .bin .mul (.const (.int .i64 2)) (.tmp 19), none⟩,
  ⟨some 21, .bin .shr (.tmp 18) (.tmp 20), none⟩,
  ⟨some 22, .bin .and (.tmp 21) (.const (.int .i64 1)), none⟩,
  ⟨some 23, .mv (.tmp 6), none⟩,
  ⟨some 24, .bin .shl (.tmp 22) (.tmp 23), none⟩,
  ⟨some 25, .bin .add (.tmp 17) (.tmp 24), none⟩,
  ⟨some 4, .mv (.tmp 25), none⟩]
def o43_27 : List AOper := [⟨some 26, .mv (.tmp 5), none⟩,
  ⟨some 27, .mv (.tmp 0), none⟩,
  ⟨some 28, .mv (.tmp 6), none⟩,
  ⟨some 29, .bin .mul (.const (.int .i64 2)) (.tmp 28), none⟩,
  ⟨some 30, .bin .add (.tmp 29) (.const (.int .i64 1)), none⟩,
  ⟨some 31, .bin .shr (.tmp 27) (.tmp 30), none⟩,
  ⟨some 32, .bin .and (.tmp 31) (.const (.int .i64 1)), none⟩,
  ⟨some 33, .mv (.tmp 6), none⟩,
  ⟨some 34, .bin .shl (.tmp 32) (.tmp 33), none⟩,
  ⟨some 35, .bin .add (.tmp 26) (.tmp 34), none⟩,
  ⟨some 5, .mv (.tmp 35), none⟩]
def o43_28 : List AOper := [⟨some 15, .mv (.tmp 6), none⟩,
  ⟨some 16, .bin .add (.tmp 15) (.const (.int .i64 1)), none⟩,
  ⟨some 6, .mv (.tmp 16), none⟩]
def c43_28 : ACode := .ops o43_28
def b43_16 : ACode := .post (.seq (.seq (.ops o43_19) (.cond (.tmp 14) (.skip) (.exit 0))) (.seq (.block 1 (.seq (.ops o43_26) (.ops o43_27))) (.clear [1, 2, 3, 7, 8, 9, 10, 11, 12, 13, 14, 15, 16, 17, 18, 19, 20, 21, 22, 23, 24, 25, 26, 27, 28, 29, 30, 31, 32, 33, 34, 35, 36, 37] c43_28))) [1, 2, 3, 7, 8, 9, 10, 11, 12, 13, 14, 15, 16, 17, 18, 19, 20, 21, 22, 23, 24, 25, 26, 27, 28, 29, 30, 31, 32, 33, 34, 35, 36, 37]
def o43_30 : List AOper := [⟨some 36, .mv (.tmp 4), none⟩,
  ⟨some 37, .mv (.tmp 5), none⟩,
  ⟨some 2, .mv (.tmp 36), none⟩,
  ⟨some 3, .mv (.tmp 37), none⟩]
def c43_29 : ACode := .seq (.ops o43_30) (.ret)
def c43_0 : ACode := .seq (.ops o43_1) (.seq (.seq (.ops o43_4) (.cond (.tmp 12) (.seq (.ops o43_7) (.ret)) (.skip))) (.seq (.ops o43_11) (.seq (.seq (.ops o43_14) (.block 0 (.clear [1, 2, 3, 7, 8, 9, 10, 11, 12, 13, 14, 15, 16, 17, 18, 19, 20, 21, 22, 23, 24, 25, 26, 27, 28, 29, 30, 31, 32, 33, 34, 35, 36, 37] (.loop b43_16)))) (.clear [0, 1, 2, 3, 6, 7, 8, 9, 10, 11, 12, 13, 14, 15, 16, 17, 18, 19, 20, 21, 22, 23, 24, 25, 26, 27, 28, 29, 30, 31, 32, 33, 34, 35, 36, 37] c43_29))))
def a43 : AFun := ⟨38, [.tmp 2, .tmp 3], c43_0⟩
/-! #### morton.Walk -/
def o44_1 : List AOper := [⟨some 4, .mv (.const (.slice none 0 0)), none⟩]
def o44_4 : List AOper := [⟨some 8, .mv (.tmp 0), none⟩,
  ⟨some 9, .mv (.tmp 1), none⟩,
  ⟨some 10, .call true (.func 56) [.tmp 8, .tmp 9] [(false, [.bool])] true, none⟩,
  ⟨some 11, .un .not (.tmp 10), none⟩]
def o44_7 : List AOper := [⟨some 4, .mv (.const (.slice none 0 0)), none⟩]
def o44_11 : List AOper := [⟨some 5, .alloc [.slice none 0 0], none⟩]
def o44_14 : List AOper := [⟨some 12, .mv (.tmp 0), none⟩,
  ⟨some 13, .mv (.tmp 1), none⟩,
  ⟨some 14, .call false (.func 57) [.tmp 12, .tmp 13] [(false, [.any])] true, none⟩]
def o44_18 : List AOper := [⟨some 6, .mv (.tmp 15), none⟩]
def o44_19 : List AOper := [⟨some 7, .mv (.tmp 16), none⟩]
def o44_21 : List AOper := [⟨some 17, .load false [.slice] (.tmp 5), none⟩,
  ⟨some 18, .mv (.tmp 6), none⟩,
  ⟨some 19, .mv (.tmp 7), none⟩,
  ⟨some 20, .build [.int .i64 0, .int .i64 0] [(0, 1, .tmp 18), (1, 1, .tmp 19)], none⟩,
  ⟨some 21, .buildSlice 2 1 [.int .i64 0, .int .i64 0] [(0, 2, .tmp 20)], none⟩,
  ⟨some 22, .append 2 16 (.tmp 17) (.tmp 21), none⟩,
  ⟨none, .store 1 (.tmp 5) (.tmp 22), none⟩]
def b44_16 : ACode := .block 1 (.ops o44_21)
def o44_23 : List AOper := [⟨some 23, .load false [.slice] (.tmp 5), none⟩,
  ⟨some 4, .mv (.tmp 23), none⟩]
def c44_22 : ACode := .seq (.ops o44_23) (.ret)
def c44_0 : ACode := .seq (.ops o44_1) (.seq (.seq (.ops o44_4) (.cond (.tmp 11) (.seq (.ops o44_7) (.ret)) (.skip))) (.seq (.ops o44_11) (.seq (.seq (.ops o44_14) (.block 0 (.clear [0, 1, 2, 3, 6, 7, 8, 9, 10, 11, 12, 13, 17, 18, 19, 20, 21, 22, 23] (.rangeFunc (.tmp 14) [15, 16] (.seq (.ops o44_18) (.ops o44_19)) b44_16)))) (.clear [0, 1, 2, 3, 4, 6, 7, 8, 9, 10, 11, 12, 13, 14, 15, 16, 17, 18, 19, 20, 21, 22, 23] c44_22))))
def a44 : AFun := ⟨24, [.tmp 4], c44_0⟩
/-! #### skylightref46.Walk -/
def o45_1 : List AOper := [⟨some 4, .mv (.const (.slice none 0 0)), none⟩]
def o45_3 : List AOper := [⟨some 5, .mv (.const (.slice none 0 0)), none⟩]
def o45_6 : List AOper := [⟨some 9, .mv (.tmp 0), none⟩,
  ⟨some 10, .bin .lss (.tmp 9) (.const (.int .i64 1)), none⟩,
  ⟨some 11, .mv (.tmp 10), none⟩,
  ⟨some 12, .mv (.tmp 1), some (11, false)⟩,
  ⟨some 13, .bin .lss (.tmp 12) (.const (.int .i64 1)), some (11, false)⟩,
  ⟨some 14, .pick (.tmp 11) (.const (.bool true)) (.tmp 13), none⟩,
  ⟨some 15, .mv (.tmp 14), none⟩,
  ⟨some 16, .mv (.tmp 0), some (15, false)⟩,
  ⟨some 17, .bin .gtr (.tmp 16) (.const (.int .i64 256)), some (15, false)⟩,
  ⟨some 18, .pick (.tmp 15) (.const (.bool true)) (.tmp 17), none⟩,
  ⟨some 19, .mv (.tmp 18), none⟩,
  ⟨some 20, .mv (.tmp 1), some (19, false)⟩,
  ⟨some 21, .bin .gtr (.tmp 20) (.const (.int .i64 256)), some (19, false)⟩,
  ⟨some 22, .pick (.tmp 19) (.const (.bool true)) (.tmp 21), none⟩]
def o45_9 : List AOper := [⟨some 4, .mv (.const (.slice none 0 0)), none⟩]
def o45_14 : List AOper := [⟨some 6, .mv (.const (.int .i64 0)), none⟩]
def o45_19 : List AOper := [⟨some 23, .mv (.tmp 6), none⟩,
  ⟨some 24, .mv (.tmp 1), none⟩,
  ⟨some 25, .bin .lss (.tmp 23) (.tmp 24), none⟩]
def o45_26 : List AOper := [⟨some 7, .mv (.const (.int .i64 0)), none⟩]
def o45_31 : List AOper := [⟨some 28, .mv (.tmp 7), none⟩,
  ⟨some 29, .mv (.tmp 0), none⟩,
  ⟨some 30, .bin .lss (.tmp 28) (.tmp 29), none⟩]
def o45_38 : List AOper := [⟨some 33, .mv (.tmp 5), none⟩,
  ⟨some 34, .len (.tmp 33), none⟩,
  ⟨some 8, .mv (.tmp 34), none⟩]
def o45_40 : List AOper := [⟨some 35, .mv (.tmp 5), none⟩,
  ⟨some 36, .mv (.tmp 7), none⟩,
  ⟨some 37, .mv (.tmp 6), none⟩,
  ⟨some 38, .build [.int .i64 0, .int .i64 0] [(0, 1, .tmp 36), (1, 1, .tmp 37)], none⟩,
  ⟨some 39, .buildSlice 2 1 [.int .i64 0, .int .i64 0] [(0, 2, .tmp 38)], none⟩,
  ⟨some 40, .append 2 16 (.tmp 35) (.tmp 39), none⟩,
  ⟨some 5, .mv (.tmp 40), none⟩]
def o45_46 : List (AOper × Option Nat) := [(⟨some 41, .mv (.tmp 8), none⟩, none),
  (⟨some 42, .bin .gtr (.tmp 41) (.const (.int .i64 0)), none⟩, none),
  (⟨some 43, .mv (.tmp 42), none⟩, none),
  (⟨some 44, .mv (.tmp 5), some (43, true)⟩, none),
  (⟨some 45, .mv (.tmp 8), some (43, true)⟩, none),
  (⟨some 46, .bin .sub (.tmp 45) (.const (.int .i64 1)), some (43, true)⟩, none),
  (⟨some 47, .indexAddr 2 (.tmp 44) (.tmp 46), some (43, true)⟩, none),
  (⟨some 48, .indexArr 2 1 (.tmp 47) (.const (.int .i64 0)), some (43, true)⟩, none),
  (⟨some 49, .load false [.int .i64] (.tmp 48), some (43, true)⟩, none),
  (⟨some 50, .mv (.tmp 5), some (43, true)⟩, none),
  (⟨some 51, .mv (.tmp 8), some (43, true)⟩, none),
  (⟨some 52, .bin .sub (.tmp 51) (.const (.int .i64 1)), some (43, true)⟩, none),
  (⟨some 53, .indexAddr 2 (.tmp 50) (.tmp 52), some (43, true)⟩, none),
  (⟨some 54, .indexArr 2 1 (.tmp 53) (.const (.int .i64 1)), some (43, true)⟩, none),
  (⟨some 55, .load false [.int .i64] (.tmp 54), some (43, true)⟩, none),
  (⟨some 56, .call true (.func 47) [.tmp 49, .tmp 55] [(false, [.int .i64])] true, some (43, true)⟩, none),
  (⟨some 57, .mv (.tmp 7), some (43, true)⟩, none),
  (⟨some 58, .mv (.tmp 6), some (43, true)⟩, none),
  (⟨some 59, .call true (.func 47) [.tmp 57, .tmp 58] [(false, [.int .i64])] true, some (43, true)⟩, none),
  (⟨some 60, .bin .gtr (.tmp 56) (.tmp 59), some (43, true)⟩, none),
  (⟨some 61, .pick (.tmp 43) (.tmp 60) (.const (.bool false)), none⟩, none)]
def o45_52 : List AOper := [⟨some 62, .mv (.tmp 5), none⟩,
  ⟨some 63, .mv (.tmp 8), none⟩,
  ⟨some 64, .mv (.tmp 5), none⟩,
  ⟨some 65, .mv (.tmp 8), none⟩,
  ⟨some 66, .bin .sub (.tmp 65) (.const (.int .i64 1)), none⟩,
  ⟨some 67, .indexAddr 2 (.tmp 64) (.tmp 66), none⟩,
  ⟨some 68, .load true [.int .i64, .int .i64] (.tmp 67), none⟩,
  ⟨some 69, .indexAddr 2 (.tmp 62) (.tmp 63), none⟩,
  ⟨none, .store 2 (.tmp 69) (.tmp 68), none⟩]
def o45_53 : List AOper := [⟨some 70, .mv (.tmp 8), none⟩,
  ⟨some 71, .bin .sub (.tmp 70) (.const (.int .i64 1)), none⟩,
  ⟨some 8, .mv (.tmp 71), none⟩]
def b45_43 : ACode := .post (.seq (.seq (.draw [] 0 o45_46 []) (.cond (.tmp 61) (.skip) (.exit 4))) (.block 5 (.seq (.ops o45_52) (.ops o45_53)))) [2, 3, 4, 9, 10, 11, 12, 13, 14, 15, 16, 17, 18, 19, 20, 21, 22, 23, 24, 25, 26, 27, 28, 29, 30, 31, 32, 33, 34, 35, 36, 37, 38, 39, 40, 41, 42, 43, 44, 45, 46, 47, 48, 49, 50, 51, 52, 53, 54, 55, 56, 57, 58, 59, 60, 61, 62, 63, 64, 65, 66, 67, 68, 69, 70, 71, 72, 73, 74, 75, 76, 77, 78]
def o45_54 : List AOper := [⟨some 72, .mv (.tmp 5), none⟩,
  ⟨some 73, .mv (.tmp 8), none⟩,
  ⟨some 74, .mv (.tmp 7), none⟩,
  ⟨some 75, .mv (.tmp 6), none⟩,
  ⟨some 76, .build [.int .i64 0, .int .i64 0] [(0, 1, .tmp 74), (1, 1, .tmp 75)], none⟩,
  ⟨some 77, .indexAddr 2 (.tmp 72) (.tmp 73), none⟩,
  ⟨none, .store 2 (.tmp 77) (.tmp 76), none⟩]
def c45_54 : ACode := .ops o45_54
def o45_55 : List AOper := [⟨some 31, .mv (.tmp 7), none⟩,
  ⟨some 32, .bin .add (.tmp 31) (.const (.int .i64 1)), none⟩,
  ⟨some 7, .mv (.tmp 32), none⟩]
def c45_55 : ACode := .ops o45_55
def b45_28 : ACode := .post (.seq (.seq (.ops o45_31) (.cond (.tmp 30) (.skip) (.exit 2))) (.seq (.block 3 (.seq (.ops o45_38) (.seq (.ops o45_40) (.seq (.block 4 (.clear [2, 3, 4, 9, 10, 11, 12, 13, 14, 15, 16, 17, 18, 19, 20, 21, 22, 23, 24, 25, 26, 27, 28, 29, 30, 31, 32, 33, 34, 35, 36, 37, 38, 39, 40, 41, 42, 43, 44, 45, 46, 47, 48, 49, 50, 51, 52, 53, 54, 55, 56, 57, 58, 59, 60, 61, 62, 63, 64, 65, 66, 67, 68, 69, 70, 71, 72, 73, 74, 75, 76, 77, 78] (.loop b45_43))) (.clear [2, 3, 4, 9, 10, 11, 12, 13, 14, 15, 16, 17, 18, 19, 20, 21, 22, 23, 24, 25, 26, 27, 28, 29, 30, 31, 32, 33, 34, 35, 36, 37, 38, 39, 40, 41, 42, 43, 44, 45, 46, 47, 48, 49, 50, 51, 52, 53, 54, 55, 56, 57, 58, 59, 60, 61, 62, 63, 64, 65, 66, 67, 68, 69, 70, 71, 72, 73, 74, 75, 76, 77, 78] c45_54))))) (.clear [2, 3, 4, 8, 9, 10, 11, 12, 13, 14, 15, 16, 17, 18, 19, 20, 21, 22, 23, 24, 25, 26, 27, 28, 29, 30, 31, 32, 33, 34, 35, 36, 37, 38, 39, 40, 41, 42, 43, 44, 45, 46, 47, 48, 49, 50, 51, 52, 53, 54, 55, 56, 57, 58, 59, 60, 61, 62, 63, 64, 65, 66, 67, 68, 69, 70, 71, 72, 73, 74, 75, 76, 77, 78] c45_55))) [2, 3, 4, 8, 9, 10, 11, 12, 13, 14, 15, 16, 17, 18, 19, 20, 21, 22, 23, 24, 25, 26, 27, 28, 29, 30, 31, 32, 33, 34, 35, 36, 37, 38, 39, 40, 41, 42, 43, 44, 45, 46, 47, 48, 49, 50, 51, 52, 53, 54, 55, 56, 57, 58, 59, 60, 61, 62, 63, 64, 65, 66, 67, 68, 69, 70, 71, 72, 73, 74, 75, 76, 77, 78]
def o45_56 : List AOper := [⟨some 26, .mv (.tmp 6), none⟩,
  ⟨some 27, .bin .add (.tmp 26) (.const (.int .i64 1)), none⟩,
  ⟨some 6, .mv (.tmp 27), none⟩]
def c45_56 : ACode := .ops o45_56
def b45_16 : ACode := .post (.seq (.seq (.ops o45_19) (.cond (.tmp 25) (.skip) (.exit 0))) (.seq (.block 1 (.seq (.ops o45_26) (.block 2 (.clear [2, 3, 4, 8, 9, 10, 11, 12, 13, 14, 15, 16, 17, 18, 19, 20, 21, 22, 23, 24, 25, 26, 27, 28, 29, 30, 31, 32, 33, 34, 35, 36, 37, 38, 39, 40, 41, 42, 43, 44, 45, 46, 47, 48, 49, 50, 51, 52, 53, 54, 55, 56, 57, 58, 59, 60, 61, 62, 63, 64, 65, 66, 67, 68, 69, 70, 71, 72, 73, 74, 75, 76, 77, 78] (.loop b45_28))))) (.clear [2, 3, 4, 7, 8, 9, 10, 11, 12, 13, 14, 15, 16, 17, 18, 19, 20, 21, 22, 23, 24, 25, 26, 27, 28, 29, 30, 31, 32, 33, 34, 35, 36, 37, 38, 39, 40, 41, 42, 43, 44, 45, 46, 47, 48, 49, 50, 51, 52, 53, 54, 55, 56, 57, 58, 59, 60, 61, 62, 63, 64, 65, 66, 67, 68, 69, 70, 71, 72, 73, 74, 75, 76, 77, 78] c45_56))) [2, 3, 4, 7, 8, 9, 10, 11, 12, 13, 14, 15, 16, 17, 18, 19, 20, 21, 22, 23, 24, 25, 26, 27, 28, 29, 30, 31, 32, 33, 34, 35, 36, 37, 38, 39, 40, 41, 42, 43, 44, 45, 46, 47, 48, 49, 50, 51, 52, 53, 54, 55, 56, 57, 58, 59, 60, 61, 62, 63, 64, 65, 66, 67, 68, 69, 70, 71, 72, 73, 74, 75, 76, 77, 78]
def o45_58 : List AOper := [⟨some 78, .mv (.tmp 5), none⟩,
  ⟨some 4, .mv (.tmp 78), none⟩]
def c45_57 : ACode := .seq (.ops o45_58) (.ret)
def c45_0 : ACode := .seq (.ops o45_1) (.seq (.ops o45_3) (.seq (.seq (.ops o45_6) (.cond (.tmp 22) (.seq (.ops o45_9) (.ret)) (.skip))) (.seq (.seq (.ops o45_14) (.block 0 (.clear [2, 3, 4, 7, 8, 9, 10, 11, 12, 13, 14, 15, 16, 17, 18, 19, 20, 21, 22, 23, 24, 25, 26, 27, 28, 29, 30, 31, 32, 33, 34, 35, 36, 37, 38, 39, 40, 41, 42, 43, 44, 45, 46, 47, 48, 49, 50, 51, 52, 53, 54, 55, 56, 57, 58, 59, 60, 61, 62, 63, 64, 65, 66, 67, 68, 69, 70, 71, 72, 73, 74, 75, 76, 77, 78] (.loop b45_16)))) (.clear [0, 1, 2, 3, 4, 6, 7, 8, 9, 10, 11, 12, 13, 14, 15, 16, 17, 18, 19, 20, 21, 22, 23, 24, 25, 26, 27, 28, 29, 30, 31, 32, 33, 34, 35, 36, 37, 38, 39, 40, 41, 42, 43, 44, 45, 46, 47, 48, 49, 50, 51, 52, 53, 54, 55, 56, 57, 58, 59, 60, 61, 62, 63, 64, 65, 66, 67, 68, 69, 70, 71, 72, 73, 74, 75, 76, 77, 78] c45_57))))
def a45 : AFun := ⟨79, [.tmp 4], c45_0⟩
/-! #### morton.Order -/
def o46_1 : List AOper := [⟨some 2, .box (.tmp 0), none⟩,
  ⟨some 4, .mv (.const (.slice none 0 0)), none⟩]
def o46_4 : List AOper := [⟨some 8, .load false [.int .i64] (.tmp 2), none⟩,
  ⟨some 9, .mv (.tmp 1), none⟩,
  ⟨some 10, .call true (.func 56) [.tmp 8, .tmp 9] [(false, [.bool])] true, none⟩,
  ⟨some 11, .un .not (.tmp 10), none⟩]
def o46_7 : List AOper := [⟨some 4, .mv (.const (.slice none 0 0)), none⟩]
def o46_11 : List AOper := [⟨some 5, .alloc [.slice none 0 0], none⟩]
def o46_14 : List AOper := [⟨some 12, .load false [.int .i64] (.tmp 2), none⟩,
  ⟨some 13, .mv (.tmp 1), none⟩,
  ⟨some 14, .call false (.func 57) [.tmp 12, .tmp 13] [(false, [.any])] true, none⟩]
def o46_18 : List AOper := [⟨some 6, .mv (.tmp 15), none⟩]
def o46_19 : List AOper := [⟨some 7, .mv (.tmp 16), none⟩]
def o46_21 : List AOper := [⟨some 17, .load false [.slice] (.tmp 5), none⟩,
  ⟨some 18, .mv (.tmp 7), none⟩,
  ⟨some 19, .load false [.int .i64] (.tmp 2), none⟩,
  ⟨some 20, .bin .mul (.tmp 18) (.tmp 19), none⟩,
  ⟨some 21, .mv (.tmp 6), none⟩,
  ⟨some 22, .bin .add (.tmp 20) (.tmp 21), none⟩,
  ⟨some 23, .buildSlice 1 1 [.int .i64 0] [(0, 1, .tmp 22)], none⟩,
  ⟨some 24, .append 1 8 (.tmp 17) (.tmp 23), none⟩,
  ⟨none, .store 1 (.tmp 5) (.tmp 24), none⟩]
def b46_16 : ACode := .block 1 (.ops o46_21)
def o46_23 : List AOper := [⟨some 25, .load false [.slice] (.tmp 5), none⟩,
  ⟨some 4, .mv (.tmp 25), none⟩]
def c46_22 : ACode := .seq (.ops o46_23) (.ret)
def c46_0 : ACode := .seq (.ops o46_1) (.seq (.seq (.ops o46_4) (.cond (.tmp 11) (.seq (.ops o46_7) (.ret)) (.skip))) (.seq (.ops o46_11) (.seq (.seq (.ops o46_14) (.block 0 (.clear [0, 1, 3, 6, 7, 8, 9, 10, 11, 12, 13, 17, 18, 19, 20, 21, 22, 23, 24, 25] (.rangeFunc (.tmp 14) [15, 16] (.seq (.ops o46_18) (.ops o46_19)) b46_16)))) (.clear [0, 1, 2, 3, 4, 6, 7, 8, 9, 10, 11, 12, 13, 14, 15, 16, 17, 18, 19, 20, 21, 22, 23, 24, 25] c46_22))))
def a46 : AFun := ⟨26, [.tmp 4], c46_0⟩
/-! #### skylightref46.Of -/
def o47_1 : List AOper := [⟨some 4, .mv (.const (.int .i64 0)), none⟩]
def o47_4 : List AOper := [⟨some 7, .mv (.tmp 0), none⟩,
  ⟨some 8, .bin .lss (.tmp 7) (.const (.int .i64 0)), none⟩,
  ⟨some 9, .mv (.tmp 8), none⟩,
  ⟨some 10, .mv (.tmp 1), some (9, false)⟩,
  ⟨some 11, .bin .lss (.tmp 10) (.const (.int .i64 0)), some (9, false)⟩,
  ⟨some 12, .pick (.tmp 9) (.const (.bool true)) (.tmp 11), none⟩,
  ⟨some 13, .mv (.tmp 12), none⟩,
  ⟨some 14, .mv (.tmp 0), some (13, false)⟩,
  ⟨some 15, .bin .gtr (.tmp 14) (.const (.int .i64 65535)), some (13, false)⟩,
  ⟨some 16, .pick (.tmp 13) (.const (.bool true)) (.tmp 15), none⟩,
  ⟨some 17, .mv (.tmp 16), none⟩,
  ⟨some 18, .mv (.tmp 1), some (17, false)⟩,
  ⟨some 19, .bin .gtr (.tmp 18) (.const (.int .i64 65535)), some (17, false)⟩,
  ⟨some 20, .pick (.tmp 17) (.const (.bool true)) (.tmp 19), none⟩]
def o47_7 : List AOper := [⟨some 4, .mv (.const (.int .i64 (-1))), none⟩]
def o47_11 : List AOper := [⟨some 5, .mv (.const (.int .i64 0)), none⟩]
def o47_14 : List AOper := [⟨some 6, .mv (.const (.int .i64 0)), none⟩]
def o47_19 : List AOper := [⟨some 21, .mv (.tmp 6), none⟩,
  ⟨some 22, .bin .lss (.tmp 21) (.const (.int .i64 16)), none⟩]
def o47_25 : List (AOper × Option Nat) := [(⟨some 25, .mv (.tmp 5), none⟩, none),
  (⟨some 26, .mv (.tmp 0), none⟩, none),
  (⟨some 27, .mv (.tmp 6), none⟩, none),
  (⟨some 28, .bin .shr (.tmp 26) (.tmp 27), none⟩, none),
  (⟨some 29, .bin .and (.tmp 28) (.const (.int .i64 1)), none⟩, none),
  (⟨some 30, .mv (.tmp 6), none⟩, none),
  (⟨some 31, .bin .mul (.const (.int .i64 2)) (.tmp 30), none⟩, none),
  (⟨some 32, .bin .shl (.tmp 29) (.tmp 31), none⟩, none),
  (⟨some 33, .bin .add (.tmp 25) (.tmp 32), none⟩, none),
  (⟨some 34, .mv (.tmp 1), none⟩, none),
  (⟨some 35, .mv (.tmp 6), none⟩, none),
  (⟨some 36, .bin .shr (.tmp 34) (.tmp 35), none⟩, none),
  (⟨some 37, .bin .and (.tmp 36) (.const (.int .i64 1)), none⟩, none),
  (⟨some 38, .mv (.tmp 6), none⟩, none),
  (⟨some 39, .bin .mul (.const (.int .i64 2)) (.tmp 38), none⟩, none),
  (⟨some 40, .bin .add (.tmp 39) (.const (.int .i64 1)), none⟩, none),
  (⟨some 41, .bin .shl (.tmp 37) (.tmp 40), none⟩, none),
  (⟨some 42, .bin .add (.tmp 33) (.tmp 41), none⟩, none),
  (⟨some 5, .mv (.tmp 42), none⟩, none)]
def o47_26 : List AOper := [⟨some 23, .mv (.tmp 6), none⟩,
  ⟨some 24, .bin .add (.tmp 23) (.const (.int .i64 1)), none⟩,
  ⟨some 6, .mv (.tmp 24), none⟩]
def c47_26 : ACode := .ops o47_26
def b47_16 : ACode := .post (.seq (.seq (.ops o47_19) (.cond (.tmp 22) (.skip) (.exit 0))) (.seq (.block 1 (.draw [] 0 o47_25 [])) (.clear [2, 3, 4, 7, 8, 9, 10, 11, 12, 13, 14, 15, 16, 17, 18, 19, 20, 21, 22, 23, 24, 25, 26, 27, 28, 29, 30, 31, 32, 33, 34, 35, 36, 37, 38, 39, 40, 41, 42, 43] c47_26))) [2, 3, 4, 7, 8, 9, 10, 11, 12, 13, 14, 15, 16, 17, 18, 19, 20, 21, 22, 23, 24, 25, 26, 27, 28, 29, 30, 31, 32, 33, 34, 35, 36, 37, 38, 39, 40, 41, 42, 43]
def o47_28 : List AOper := [⟨some 43, .mv (.tmp 5), none⟩,
  ⟨some 4, .mv (.tmp 43), none⟩]
def c47_27 : ACode := .seq (.ops o47_28) (.ret)
def c47_0 : ACode := .seq (.ops o47_1) (.seq (.seq (.ops o47_4) (.cond (.tmp 20) (.seq (.ops o47_7) (.ret)) (.skip))) (.seq (.ops o47_11) (.seq (.seq (.ops o47_14) (.block 0 (.clear [2, 3, 4, 7, 8, 9, 10, 11, 12, 13, 14, 15, 16, 17, 18, 19, 20, 21, 22, 23, 24, 25, 26, 27, 28, 29, 30, 31, 32, 33, 34, 35, 36, 37, 38, 39, 40, 41, 42, 43] (.loop b47_16)))) (.clear [0, 1, 2, 3, 4, 6, 7, 8, 9, 10, 11, 12, 13, 14, 15, 16, 17, 18, 19, 20, 21, 22, 23, 24, 25, 26, 27, 28, 29, 30, 31, 32, 33, 34, 35, 36, 37, 38, 39, 40, 41, 42, 43] c47_27))))
def a47 : AFun := ⟨44, [.tmp 4], c47_0⟩
/-! #### skylightref46.Tile -/
def o48_1 : List AOper := [⟨some 4, .mv (.const (.int .i64 0)), none⟩]
def o48_4 : List AOper := [⟨some 6, .mv (.tmp 0), none⟩,
  ⟨some 7, .bin .lss (.tmp 6) (.const (.int .i64 0)), none⟩,
  ⟨some 8, .mv (.tmp 7), none⟩,
  ⟨some 9, .mv (.tmp 0), some (8, false)⟩,
  ⟨some 10, .bin .gtr (.tmp 9) (.const (.int .i64 4294967295)), some (8, false)⟩,
  ⟨some 11, .pick (.tmp 8) (.const (.bool true)) (.tmp 10), none⟩,
  ⟨some 12, .mv (.tmp 11), none⟩,
  ⟨some 13, .mv (.tmp 1), some (12, false)⟩,
  ⟨some 14, .bin .lss (.tmp 13) (.const (.int .i64 0)), some (12, false)⟩,
  ⟨some 15, .pick (.tmp 12) (.const (.bool true)) (.tmp 14), none⟩,
  ⟨some 16, .mv (.tmp 15), none⟩,
  ⟨some 17, .mv (.tmp 1), some (16, false)⟩,
  ⟨some 18, .bin .gtr (.tmp 17) (.const (.int .i64 16)), some (16, false)⟩,
  ⟨some 19, .pick (.tmp 16) (.const (.bool true)) (.tmp 18), none⟩]
def o48_7 : List AOper := [⟨some 4, .mv (.const (.int .i64 (-1))), none⟩]
def o48_12 : List AOper := [⟨some 5, .mv (.const (.int .i64 0)), none⟩]
def o48_17 : List AOper := [⟨some 20, .mv (.tmp 5), none⟩,
  ⟨some 21, .mv (.tmp 1), none⟩,
  ⟨some 22, .bin .lss (.tmp 20) (.tmp 21), none⟩]
def o48_23 : List AOper := [⟨some 25, .mv (.tmp 0), none⟩,
  ⟨some 26, .bin .quo (.tmp 25) (.const (.int .i64 4)), none⟩,
  ⟨some 0, .mv (.tmp 26), none⟩]
def o48_24 : List AOper := [⟨some 23, .mv (.tmp 5), none⟩,
  ⟨some 24, .bin .add (.tmp 23) (.const (.int .i64 1)), none⟩,
  ⟨some 5, .mv (.tmp 24), none⟩]
def c48_24 : ACode := .ops o48_24
def b48_14 : ACode := .post (.seq (.seq (.ops o48_17) (.cond (.tmp 22) (.skip) (.exit 0))) (.seq (.block 1 (.ops o48_23)) (.clear [2, 3, 4, 6, 7, 8, 9, 10, 11, 12, 13, 14, 15, 16, 17, 18, 19, 20, 21, 22, 23, 24, 25, 26, 27] c48_24))) [2, 3, 4, 6, 7, 8, 9, 10, 11, 12, 13, 14, 15, 16, 17, 18, 19, 20, 21, 22, 23, 24, 25, 26, 27]
def o48_26 : List AOper := [⟨some 27, .mv (.tmp 0), none⟩,
  ⟨some 4, .mv (.tmp 27), none⟩]
def c48_25 : ACode := .seq (.ops o48_26) (.ret)
def c48_0 : ACode := .seq (.ops o48_1) (.seq (.seq (.ops o48_4) (.cond (.tmp 19) (.seq (.ops o48_7) (.ret)) (.skip))) (.seq (.seq (.ops o48_12) (.block 0 (.clear [2, 3, 4, 6, 7, 8, 9, 10, 11, 12, 13, 14, 15, 16, 17, 18, 19, 20, 21, 22, 23, 24, 25, 26, 27] (.loop b48_14)))) (.clear [1, 2, 3, 4, 5, 6, 7, 8, 9, 10, 11, 12, 13, 14, 15, 16, 17, 18, 19, 20, 21, 22, 23, 24, 25, 26, 27] c48_25)))
def a48 : AFun := ⟨28, [.tmp 4], c48_0⟩
/-! #### layout.Layout.begins -/
def o49_1 : List AOper := [⟨some 2, .box (.tmp 0), none⟩,
  ⟨some 4, .mv (.const (.int .i64 0)), none⟩]
def o49_4 : List AOper := [⟨some 5, .mv (.tmp 1), none⟩]
def o49_7 : List AOper := [⟨some 7, .bin .eql (.tmp 5) (.const (.int .i64 1)), none⟩,
  ⟨some 6, .mv (.tmp 7), none⟩]
def o49_10 : List AOper := [⟨some 4, .mv (.const (.int .i64 0)), none⟩]
def o49_13 : List AOper := [⟨some 9, .bin .eql (.tmp 5) (.const (.int .i64 2)), none⟩,
  ⟨some 8, .mv (.tmp 9), none⟩]
def o49_16 : List AOper := [⟨some 4, .mv (.const (.int .i64 1)), none⟩]
def o49_19 : List AOper := [⟨some 11, .bin .eql (.tmp 5) (.const (.int .i64 3)), none⟩,
  ⟨some 10, .mv (.tmp 11), none⟩]
def o49_22 : List AOper := [⟨some 12, .fieldAddr 1 (.tmp 2), none⟩,
  ⟨some 13, .load false [.int .i64] (.tmp 12), none⟩,
  ⟨some 14, .bin .add (.const (.int .i64 1)) (.tmp 13), none⟩,
  ⟨some 4, .mv (.tmp 14), none⟩]
def o49_26 : List AOper := [⟨some 15, .fieldAddr 1 (.tmp 2), none⟩,
  ⟨some 16, .load false [.int .i64] (.tmp 15), none⟩,
  ⟨some 17, .bin .mul (.const (.int .i64 2)) (.tmp 16), none⟩,
  ⟨some 18, .bin .add (.const (.int .i64 1)) (.tmp 17), none⟩,
  ⟨some 4, .mv (.tmp 18), none⟩]
def c49_25 : ACode := .seq (.ops o49_26) (.ret)
def c49_0 : ACode := .seq (.ops o49_1) (.seq (.seq (.ops o49_4) (.block 0 (.seq (.ops o49_7) (.cond (.tmp 6) (.seq (.ops o49_10) (.ret)) (.seq (.ops o49_13) (.cond (.tmp 8) (.seq (.ops o49_16) (.ret)) (.seq (.ops o49_19) (.cond (.tmp 10) (.seq (.ops o49_22) (.ret)) (.skip))))))))) (.clear [0, 1, 3, 4, 5, 6, 7, 8, 9, 10, 11, 12, 13, 14, 15, 16, 17, 18] c49_25))
def a49 : AFun := ⟨19, [.tmp 4], c49_0⟩
/-! #### layout.Layout.place -/
def o50_1 : List AOper := [⟨some 4, .box (.tmp 0), none⟩,
  ⟨some 8, .mv (.const (.int .i64 0)), none⟩]
def o50_4 : List AOper := [⟨some 9, .load true [.int .i64, .int .i64] (.tmp 4), none⟩,
  ⟨some 10, .call true (.func 15) [.tmp 9] [(false, [.bool])] true, none⟩,
  ⟨some 11, .un .not (.tmp 10), none⟩,
  ⟨some 12, .mv (.tmp 11), none⟩,
  ⟨some 13, .mv (.tmp 2), some (12, false)⟩,
  ⟨some 14, .bin .lss (.tmp 13) (.const (.int .i64 0)), some (12, false)⟩,
  ⟨some 15, .pick (.tmp 12) (.const (.bool true)) (.tmp 14), none⟩,
  ⟨some 16, .mv (.tmp 15), none⟩,
  ⟨some 17, .mv (.tmp 2), some (16, false)⟩,
  ⟨some 18, .mv (.tmp 3), some (16, false)⟩,
  ⟨some 19, .bin .geq (.tmp 17) (.tmp 18), some (16, false)⟩,
  ⟨some 20, .pick (.tmp 16) (.const (.bool true)) (.tmp 19), none⟩]
def o50_7 : List AOper := [⟨some 8, .mv (.const (.int .i64 (-1))), none⟩]
def o50_11 : List AOper := [⟨some 21, .load true [.int .i64, .int .i64] (.tmp 4), none⟩,
  ⟨some 22, .mv (.tmp 1), none⟩,
  ⟨some 23, .call true (.func 49) [.tmp 21, .tmp 22] [(false, [.int .i64])] true, none⟩,
  ⟨some 24, .mv (.tmp 2), none⟩,
  ⟨some 25, .bin .add (.tmp 23) (.tmp 24), none⟩,
  ⟨some 8, .mv (.tmp 25), none⟩]
def c50_0 : ACode := .seq (.ops o50_1) (.seq (.seq (.ops o50_4) (.cond (.tmp 20) (.seq (.ops o50_7) (.ret)) (.skip))) (.seq (.ops o50_11) (.ret)))
def a50 : AFun := ⟨26, [.tmp 8], c50_0⟩
/-! #### cell.Memory.at -/
def o51_1 : List AOper := [⟨some 4, .mv (.const (.pointer none)), none⟩]
def o51_4 : List AOper := [⟨some 5, .mv (.tmp 0), none⟩,
  ⟨some 6, .eqNil 0 false (.tmp 5), none⟩,
  ⟨some 7, .mv (.tmp 6), none⟩,
  ⟨some 8, .mv (.tmp 0), some (7, false)⟩,
  ⟨some 9, .nilCheck (.tmp 8), some (7, false)⟩,
  ⟨some 10, .fieldAddr 0 (.tmp 9), some (7, false)⟩,
  ⟨some 11, .load false [.bool] (.tmp 10), some (7, false)⟩,
  ⟨some 12, .un .not (.tmp 11), some (7, false)⟩,
  ⟨some 13, .pick (.tmp 7) (.const (.bool true)) (.tmp 12), none⟩]
def o51_7 : List AOper := [⟨some 4, .mv (.const (.pointer none)), none⟩]
def o51_11 : List AOper := [⟨some 14, .mv (.tmp 0), none⟩,
  ⟨some 15, .nilCheck (.tmp 14), none⟩,
  ⟨some 16, .fieldAddr 2 (.tmp 15), none⟩,
  ⟨some 17, .load false [.int .i64] (.tmp 16), none⟩,
  ⟨some 18, .bin .add (.tmp 17) (.const (.int .i64 1)), none⟩,
  ⟨some 19, .nilCheck (.tmp 14), none⟩,
  ⟨some 20, .fieldAddr 2 (.tmp 19), none⟩,
  ⟨none, .store 1 (.tmp 20) (.tmp 18), none⟩]
def o51_14 : List AOper := [⟨some 21, .mv (.tmp 1), none⟩,
  ⟨some 22, .bin .lss (.tmp 21) (.const (.int .i64 0)), none⟩,
  ⟨some 23, .mv (.tmp 22), none⟩,
  ⟨some 24, .mv (.tmp 1), some (23, false)⟩,
  ⟨some 25, .mv (.tmp 0), some (23, false)⟩,
  ⟨some 26, .nilCheck (.tmp 25), some (23, false)⟩,
  ⟨some 27, .fieldAddr 1 (.tmp 26), some (23, false)⟩,
  ⟨some 28, .load false [.slice] (.tmp 27), some (23, false)⟩,
  ⟨some 29, .len (.tmp 28), some (23, false)⟩,
  ⟨some 30, .bin .geq (.tmp 24) (.tmp 29), some (23, false)⟩,
  ⟨some 31, .pick (.tmp 23) (.const (.bool true)) (.tmp 30), none⟩]
def o51_17 : List AOper := [⟨some 4, .mv (.const (.pointer none)), none⟩]
def o51_21 : List AOper := [⟨some 32, .mv (.tmp 0), none⟩,
  ⟨some 33, .nilCheck (.tmp 32), none⟩,
  ⟨some 34, .fieldAddr 1 (.tmp 33), none⟩,
  ⟨some 35, .load false [.slice] (.tmp 34), none⟩,
  ⟨some 36, .mv (.tmp 1), none⟩,
  ⟨some 37, .indexAddr 1 (.tmp 35) (.tmp 36), none⟩,
  ⟨some 4, .mv (.tmp 37), none⟩]
def c51_0 : ACode := .seq (.ops o51_1) (.seq (.seq (.ops o51_4) (.cond (.tmp 13) (.seq (.ops o51_7) (.ret)) (.skip))) (.seq (.ops o51_11) (.seq (.seq (.ops o51_14) (.cond (.tmp 31) (.seq (.ops o51_17) (.ret)) (.skip))) (.seq (.ops o51_21) (.ret)))))
def a51 : AFun := ⟨38, [.tmp 4], c51_0⟩
/-! #### skylightref31.At -/
def o52_1 : List AOper := [⟨some 2, .box (.tmp 0), none⟩,
  ⟨some 3, .box (.tmp 1), none⟩,
  ⟨some 4, .mv (.const (.int .i64 0)), none⟩]
def o52_4 : List AOper := [⟨some 5, .fieldAddr 0 (.tmp 3), none⟩,
  ⟨some 6, .load false [.int .i64] (.tmp 5), none⟩,
  ⟨some 7, .bin .eql (.tmp 6) (.const (.int .i64 2)), none⟩]
def o52_7 : List AOper := [⟨some 8, .fieldAddr 1 (.tmp 3), none⟩,
  ⟨some 9, .load false [.int .i64] (.tmp 8), none⟩,
  ⟨some 10, .bin .add (.const (.int .i64 1)) (.tmp 9), none⟩,
  ⟨some 4, .mv (.tmp 10), none⟩]
def o52_12 : List AOper := [⟨some 11, .fieldAddr 0 (.tmp 3), none⟩,
  ⟨some 12, .load false [.int .i64] (.tmp 11), none⟩,
  ⟨some 13, .bin .eql (.tmp 12) (.const (.int .i64 3)), none⟩]
def o52_15 : List AOper := [⟨some 14, .fieldAddr 1 (.tmp 2), none⟩,
  ⟨some 15, .load false [.int .i64] (.tmp 14), none⟩,
  ⟨some 16, .bin .add (.const (.int .i64 1)) (.tmp 15), none⟩,
  ⟨some 17, .fieldAddr 1 (.tmp 3), none⟩,
  ⟨some 18, .load false [.int .i64] (.tmp 17), none⟩,
  ⟨some 19, .bin .add (.tmp 16) (.tmp 18), none⟩,
  ⟨some 4, .mv (.tmp 19), none⟩]
def o52_19 : List AOper := [⟨some 20, .fieldAddr 1 (.tmp 2), none⟩,
  ⟨some 21, .load false [.int .i64] (.tmp 20), none⟩,
  ⟨some 22, .bin .mul (.const (.int .i64 2)) (.tmp 21), none⟩,
  ⟨some 23, .bin .add (.const (.int .i64 1)) (.tmp 22), none⟩,
  ⟨some 24, .fieldAddr 1 (.tmp 3), none⟩,
  ⟨some 25, .load false [.int .i64] (.tmp 24), none⟩,
  ⟨some 26, .bin .mul (.const (.int .i64 3)) (.tmp 25), none⟩,
  ⟨some 27, .bin .add (.tmp 23) (.tmp 26), none⟩,
  ⟨some 28, .fieldAddr 2 (.tmp 3), none⟩,
  ⟨some 29, .load false [.int .i64] (.tmp 28), none⟩,
  ⟨some 30, .bin .add (.tmp 27) (.tmp 29), none⟩,
  ⟨some 4, .mv (.tmp 30), none⟩]
def c52_0 : ACode := .seq (.ops o52_1) (.seq (.seq (.ops o52_4) (.cond (.tmp 7) (.seq (.ops o52_7) (.ret)) (.skip))) (.seq (.seq (.ops o52_12) (.cond (.tmp 13) (.seq (.ops o52_15) (.ret)) (.skip))) (.seq (.ops o52_19) (.ret))))
def a52 : AFun := ⟨31, [.tmp 4], c52_0⟩
/-! #### morton.within -/
def o53_1 : List AOper := [⟨some 4, .mv (.const (.bool false)), none⟩]
def o53_4 : List AOper := [⟨some 7, .mv (.tmp 1), none⟩,
  ⟨some 8, .len (.tmp 7), none⟩,
  ⟨some 9, .mv (.const (.int .i64 0)), none⟩]
def o53_8 : List AOper := [⟨some 10, .bin .lss (.tmp 9) (.tmp 8), none⟩]
def o53_16 : List AOper := [⟨some 11, .indexAddr 1 (.tmp 7) (.tmp 9), none⟩,
  ⟨some 12, .load false [.int .i64] (.tmp 11), none⟩,
  ⟨some 6, .mv (.tmp 12), none⟩]
def o53_18 : List AOper := [⟨some 13, .mv (.tmp 6), none⟩,
  ⟨some 14, .bin .lss (.tmp 13) (.const (.int .i64 0)), none⟩,
  ⟨some 15, .mv (.tmp 14), none⟩,
  ⟨some 16, .mv (.tmp 6), some (15, false)⟩,
  ⟨some 17, .mv (.tmp 0), some (15, false)⟩,
  ⟨some 18, .bin .geq (.tmp 16) (.tmp 17), some (15, false)⟩,
  ⟨some 19, .pick (.tmp 15) (.const (.bool true)) (.tmp 18), none⟩]
def o53_21 : List AOper := [⟨some 4, .mv (.const (.bool false)), none⟩]
def o53_24 : List AOper := [⟨some 20, .bin .add (.tmp 9) (.const (.int .i64 1)), none⟩,
  ⟨some 9, .mv (.tmp 20), none⟩]
def c53_24 : ACode := .ops o53_24
def b53_6 : ACode := .post (.seq (.ops o53_8) (.seq (.cond (.tmp 10) (.skip) (.exit 0)) (.seq (.block 1 (.seq (.ops o53_16) (.seq (.ops o53_18) (.cond (.tmp 19) (.seq (.ops o53_21) (.ret)) (.skip))))) (.clear [1, 2, 3, 4, 5, 6, 10, 11, 12, 13, 14, 15, 16, 17, 18, 19, 20] c53_24)))) [1, 2, 3, 4, 5, 6, 10, 11, 12, 13, 14, 15, 16, 17, 18, 19, 20]
def o53_26 : List AOper := [⟨some 4, .mv (.const (.bool true)), none⟩]
def c53_25 : ACode := .seq (.ops o53_26) (.ret)
def c53_0 : ACode := .seq (.ops o53_1) (.seq (.seq (.ops o53_4) (.block 0 (.clear [1, 2, 3, 4, 5, 6, 10, 11, 12, 13, 14, 15, 16, 17, 18, 19, 20] (.loop b53_6)))) (.clear [0, 1, 2, 3, 4, 5, 6, 7, 8, 9, 10, 11, 12, 13, 14, 15, 16, 17, 18, 19, 20] c53_25))
def a53 : AFun := ⟨21, [.tmp 4], c53_0⟩
/-! #### morton.spread -/
def o54_1 : List AOper := [⟨some 2, .mv (.const (.int .i64 0)), none⟩]
def o54_3 : List AOper := [⟨some 3, .mv (.tmp 0), none⟩,
  ⟨some 4, .mv (.tmp 0), none⟩,
  ⟨some 5, .bin .shl (.tmp 4) (.const (.int .u64 8)), none⟩,
  ⟨some 6, .bin .or (.tmp 3) (.tmp 5), none⟩,
  ⟨some 7, .bin .and (.tmp 6) (.const (.int .i64 16711935)), none⟩,
  ⟨some 0, .mv (.tmp 7), none⟩]
def o54_5 : List AOper := [⟨some 8, .mv (.tmp 0), none⟩,
  ⟨some 9, .mv (.tmp 0), none⟩,
  ⟨some 10, .bin .shl (.tmp 9) (.const (.int .u64 4)), none⟩,
  ⟨some 11, .bin .or (.tmp 8) (.tmp 10), none⟩,
  ⟨some 12, .bin .and (.tmp 11) (.const (.int .i64 252645135)), none⟩,
  ⟨some 0, .mv (.tmp 12), none⟩]
def o54_7 : List AOper := [⟨some 13, .mv (.tmp 0), none⟩,
  ⟨some 14, .mv (.tmp 0), none⟩,
  ⟨some 15, .bin .shl (.tmp 14) (.const (.int .u64 2)), none⟩,
  ⟨some 16, .bin .or (.tmp 13) (.tmp 15), none⟩,
  ⟨some 17, .bin .and (.tmp 16) (.const (.int .i64 858993459)), none⟩,
  ⟨some 0, .mv (.tmp 17), none⟩]
def o54_9 : List AOper := [⟨some 18, .mv (.tmp 0), none⟩,
  ⟨some 19, .mv (.tmp 0), none⟩,
  ⟨some 20, .bin .shl (.tmp 19) (.const (.int .u64 1)), none⟩,
  ⟨some 21, .bin .or (.tmp 18) (.tmp 20), none⟩,
  ⟨some 22, .bin .and (.tmp 21) (.const (.int .i64 1431655765)), none⟩,
  ⟨some 2, .mv (.tmp 22), none⟩]
def c54_0 : ACode := .seq (.ops o54_1) (.seq (.ops o54_3) (.seq (.ops o54_5) (.seq (.ops o54_7) (.seq (.ops o54_9) (.ret)))))
def a54 : AFun := ⟨23, [.tmp 2], c54_0⟩
/-! #### morton.gathered -/
def o55_1 : List AOper := [⟨some 2, .mv (.const (.int .i64 0)), none⟩]
def o55_3 : List AOper := [⟨some 3, .mv (.tmp 0), none⟩,
  ⟨some 4, .bin .and (.tmp 3) (.const (.int .i64 1431655765)), none⟩,
  ⟨some 0, .mv (.tmp 4), none⟩]
def o55_5 : List AOper := [⟨some 5, .mv (.tmp 0), none⟩,
  ⟨some 6, .mv (.tmp 0), none⟩,
  ⟨some 7, .bin .shr (.tmp 6) (.const (.int .u64 1)), none⟩,
  ⟨some 8, .bin .or (.tmp 5) (.tmp 7), none⟩,
  ⟨some 9, .bin .and (.tmp 8) (.const (.int .i64 858993459)), none⟩,
  ⟨some 0, .mv (.tmp 9), none⟩]
def o55_7 : List AOper := [⟨some 10, .mv (.tmp 0), none⟩,
  ⟨some 11, .mv (.tmp 0), none⟩,
  ⟨some 12, .bin .shr (.tmp 11) (.const (.int .u64 2)), none⟩,
  ⟨some 13, .bin .or (.tmp 10) (.tmp 12), none⟩,
  ⟨some 14, .bin .and (.tmp 13) (.const (.int .i64 252645135)), none⟩,
  ⟨some 0, .mv (.tmp 14), none⟩]
def o55_9 : List AOper := [⟨some 15, .mv (.tmp 0), none⟩,
  ⟨some 16, .mv (.tmp 0), none⟩,
  ⟨some 17, .bin .shr (.tmp 16) (.const (.int .u64 4)), none⟩,
  ⟨some 18, .bin .or (.tmp 15) (.tmp 17), none⟩,
  ⟨some 19, .bin .and (.tmp 18) (.const (.int .i64 16711935)), none⟩,
  ⟨some 0, .mv (.tmp 19), none⟩]
def o55_11 : List AOper := [⟨some 20, .mv (.tmp 0), none⟩,
  ⟨some 21, .mv (.tmp 0), none⟩,
  ⟨some 22, .bin .shr (.tmp 21) (.const (.int .u64 8)), none⟩,
  ⟨some 23, .bin .or (.tmp 20) (.tmp 22), none⟩,
  ⟨some 24, .bin .and (.tmp 23) (.const (.int .i64 65535)), none⟩,
  ⟨some 2, .mv (.tmp 24), none⟩]
def c55_0 : ACode := .seq (.ops o55_1) (.seq (.ops o55_3) (.seq (.ops o55_5) (.seq (.ops o55_7) (.seq (.ops o55_9) (.seq (.ops o55_11) (.ret))))))
def a55 : AFun := ⟨25, [.tmp 2], c55_0⟩
/-! #### morton.given -/
def o56_1 : List AOper := [⟨some 4, .mv (.const (.bool false)), none⟩]
def o56_3 : List AOper := [⟨some 5, .mv (.tmp 0), none⟩,
  ⟨some 6, .mv (.tmp 1), none⟩,
  ⟨some 7, .minmax false [.tmp 5, .tmp 6], none⟩,
  ⟨some 8, .bin .geq (.tmp 7) (.const (.int .i64 1)), none⟩,
  ⟨some 9, .mv (.tmp 8), none⟩,
  ⟨some 10, .mv (.tmp 0), some (9, true)⟩,
  ⟨some 11, .mv (.tmp 1), some (9, true)⟩,
  ⟨some 12, .minmax true [.tmp 10, .tmp 11], some (9, true)⟩,
  ⟨some 13, .bin .leq (.tmp 12) (.const (.int .i64 256)), some (9, true)⟩,
  ⟨some 14, .pick (.tmp 9) (.tmp 13) (.const (.bool false)), none⟩,
  ⟨some 4, .mv (.tmp 14), none⟩]
def c56_0 : ACode := .seq (.ops o56_1) (.seq (.ops o56_3) (.ret))
def a56 : AFun := ⟨15, [.tmp 4], c56_0⟩
/-! #### morton.places -/
def o57_1 : List AOper := [⟨some 2, .box (.tmp 0), none⟩,
  ⟨some 3, .box (.tmp 1), none⟩,
  ⟨some 4, .mv (.const (.nilFunc)), none⟩]
def o57_3 : List AOper := [⟨some 5, .makeFunc (.func 58) [] [.tmp 2, .tmp 3], none⟩,
  ⟨some 4, .mv (.tmp 5), none⟩]
def c57_0 : ACode := .seq (.ops o57_1) (.seq (.ops o57_3) (.ret))
def a57 : AFun := ⟨6, [.tmp 4], c57_0⟩
/-! #### morton.places$1 -/
def o58_1 : List AOper := [⟨some 8, .load false [.int .i64] (.tmp 1), none⟩,
  ⟨some 9, .bin .sub (.tmp 8) (.const (.int .i64 1)), none⟩,
  ⟨some 10, .load false [.int .i64] (.tmp 2), none⟩,
  ⟨some 11, .bin .sub (.tmp 10) (.const (.int .i64 1)), none⟩,
  ⟨some 12, .call true (.func 39) [.tmp 9, .tmp 11] [(false, [.int .i64])] true, none⟩,
  ⟨some 4, .mv (.tmp 12), none⟩]
def o58_3 : List AOper := [⟨some 13, .mv (.const (.int .i64 0)), none⟩]
def o58_7 : List AOper := [⟨some 14, .bin .lss (.tmp 13) (.const (.int .i64 65536)), none⟩]
def o58_15 : List AOper := [⟨some 15, .mv (.tmp 13), none⟩,
  ⟨some 5, .mv (.tmp 15), none⟩]
def o58_18 : List AOper := [⟨some 16, .mv (.tmp 5), none⟩,
  ⟨some 17, .mv (.tmp 4), none⟩,
  ⟨some 18, .bin .gtr (.tmp 16) (.tmp 17), none⟩]
def o58_23 : List AOper := [⟨some 20, .mv (.tmp 5), none⟩,
  ⟨some 21, .call true (.func 40) [.tmp 20] [(false, [.int .i64]), (false, [.int .i64])] false, none⟩,
  ⟨some 19, .mv (.tmp 21), none⟩,
  ⟨some 22, .extract (.tmp 19) 0, none⟩,
  ⟨some 23, .extract (.tmp 19) 1, none⟩,
  ⟨some 6, .mv (.tmp 22), none⟩,
  ⟨some 7, .mv (.tmp 23), none⟩]
def o58_25 : List AOper := [⟨some 24, .mv (.tmp 6), none⟩,
  ⟨some 25, .load false [.int .i64] (.tmp 1), none⟩,
  ⟨some 26, .bin .lss (.tmp 24) (.tmp 25), none⟩,
  ⟨some 27, .mv (.tmp 26), none⟩,
  ⟨some 28, .mv (.tmp 7), some (27, true)⟩,
  ⟨some 29, .load false [.int .i64] (.tmp 2), some (27, true)⟩,
  ⟨some 30, .bin .lss (.tmp 28) (.tmp 29), some (27, true)⟩,
  ⟨some 31, .pick (.tmp 27) (.tmp 30) (.const (.bool false)), none⟩,
  ⟨some 32, .mv (.tmp 31), none⟩,
  ⟨some 33, .mv (.tmp 0), some (32, true)⟩,
  ⟨some 34, .mv (.tmp 6), some (32, true)⟩,
  ⟨some 35, .mv (.tmp 7), some (32, true)⟩,
  ⟨some 36, .call false (.tmp 33) [.tmp 34, .tmp 35] [(false, [.bool])] true, some (32, true)⟩,
  ⟨some 37, .un .not (.tmp 36), some (32, true)⟩,
  ⟨some 38, .pick (.tmp 32) (.tmp 37) (.const (.bool false)), none⟩]
def o58_29 : List AOper := [⟨some 39, .bin .add (.tmp 13) (.const (.int .i64 1)), none⟩,
  ⟨some 13, .mv (.tmp 39), none⟩]
def c58_29 : ACode := .ops o58_29
def b58_5 : ACode := .post (.seq (.ops o58_7) (.seq (.cond (.tmp 14) (.skip) (.exit 0)) (.seq (.block 1 (.seq (.ops o58_15) (.seq (.seq (.ops o58_18) (.cond (.tmp 18) (.ret) (.skip))) (.seq (.ops o58_23) (.seq (.ops o58_25) (.cond (.tmp 38) (.ret) (.skip))))))) (.clear [3, 5, 6, 7, 8, 9, 10, 11, 12, 14, 15, 16, 17, 18, 19, 20, 21, 22, 23, 24, 25, 26, 27, 28, 29, 30, 31, 32, 33, 34, 35, 36, 37, 38, 39] c58_29)))) [3, 5, 6, 7, 8, 9, 10, 11, 12, 14, 15, 16, 17, 18, 19, 20, 21, 22, 23, 24, 25, 26, 27, 28, 29, 30, 31, 32, 33, 34, 35, 36, 37, 38, 39]
def c58_0 : ACode := .seq (.ops o58_1) (.seq (.ops o58_3) (.block 0 (.clear [3, 5, 6, 7, 8, 9, 10, 11, 12, 14, 15, 16, 17, 18, 19, 20, 21, 22, 23, 24, 25, 26, 27, 28, 29, 30, 31, 32, 33, 34, 35, 36, 37, 38, 39] (.loop b58_5))))
def a58 : AFun := ⟨40, [], c58_0⟩
def envL : List (Nat × AFun) := [(3, a3), (4, a4), (5, a5), (6, a6), (7, a7), (8, a8), (9, a9), (10, a10), (11, a11), (12, a12), (13, a13), (14, a14), (15, a15), (16, a16), (17, a17), (18, a18), (19, a19), (20, a20), (21, a21), (22, a22), (23, a23), (24, a24), (25, a25), (26, a26), (27, a27), (28, a28), (29, a29), (30, a30), (31, a31), (32, a32), (33, a33), (34, a34), (35, a35), (36, a36), (37, a37), (38, a38), (39, a39), (40, a40), (41, a41), (42, a42), (43, a43), (44, a44), (45, a45), (46, a46), (47, a47), (48, a48), (49, a49), (50, a50), (51, a51), (52, a52), (53, a53), (54, a54), (55, a55), (56, a56), (57, a57), (58, a58)]
def env : Env := ⟨fun g => envL.lookup g, fun _ => none⟩
theorem LL_ex : ∃ L : Rec, L = lim env := ⟨_, rfl⟩
/-- The interpreter of these functions: nothing unfolds it. -/
noncomputable def LL : Rec := Classical.choose LL_ex
theorem LL_lim : LL = lim env := Classical.choose_spec LL_ex
theorem L_loop (b : ACode) (K : KT) (t : List Value) (A : AMem) : LL.loop b K t A = code LL b (loopK LL b K) t A := by rw [LL_lim]; exact lim_loop env b K t A
theorem L_round (l : Nat) (args : List Value) (A : AMem) : LL.round l args A = roundF LL l args A := by rw [LL_lim]; exact lim_round env l args A
theorem L_fn {f : FuncId} {a : AFun} (h : envL.lookup f = some a) (args : List Value) (A : AMem) : LL.call f args A = enterF LL a args A := by rw [LL_lim]; exact lim_call rfl h args A
theorem L_call3 (args : List Value) (A : AMem) : LL.call 3 args A = enterF LL a3 args A := L_fn (by kernel_rfl) args A
theorem L_call4 (args : List Value) (A : AMem) : LL.call 4 args A = enterF LL a4 args A := L_fn (by kernel_rfl) args A
theorem L_call5 (args : List Value) (A : AMem) : LL.call 5 args A = enterF LL a5 args A := L_fn (by kernel_rfl) args A
theorem L_call6 (args : List Value) (A : AMem) : LL.call 6 args A = enterF LL a6 args A := L_fn (by kernel_rfl) args A
theorem L_call7 (args : List Value) (A : AMem) : LL.call 7 args A = enterF LL a7 args A := L_fn (by kernel_rfl) args A
theorem L_call8 (args : List Value) (A : AMem) : LL.call 8 args A = enterF LL a8 args A := L_fn (by kernel_rfl) args A
theorem L_call9 (args : List Value) (A : AMem) : LL.call 9 args A = enterF LL a9 args A := L_fn (by kernel_rfl) args A
theorem L_call10 (args : List Value) (A : AMem) : LL.call 10 args A = enterF LL a10 args A := L_fn (by kernel_rfl) args A
theorem L_call11 (args : List Value) (A : AMem) : LL.call 11 args A = enterF LL a11 args A := L_fn (by kernel_rfl) args A
theorem L_call12 (args : List Value) (A : AMem) : LL.call 12 args A = enterF LL a12 args A := L_fn (by kernel_rfl) args A
theorem L_call13 (args : List Value) (A : AMem) : LL.call 13 args A = enterF LL a13 args A := L_fn (by kernel_rfl) args A
theorem L_call14 (args : List Value) (A : AMem) : LL.call 14 args A = enterF LL a14 args A := L_fn (by kernel_rfl) args A
theorem L_call15 (args : List Value) (A : AMem) : LL.call 15 args A = enterF LL a15 args A := L_fn (by kernel_rfl) args A
theorem L_call16 (args : List Value) (A : AMem) : LL.call 16 args A = enterF LL a16 args A := L_fn (by kernel_rfl) args A
theorem L_call17 (args : List Value) (A : AMem) : LL.call 17 args A = enterF LL a17 args A := L_fn (by kernel_rfl) args A
theorem L_call18 (args : List Value) (A : AMem) : LL.call 18 args A = enterF LL a18 args A := L_fn (by kernel_rfl) args A
theorem L_call19 (args : List Value) (A : AMem) : LL.call 19 args A = enterF LL a19 args A := L_fn (by kernel_rfl) args A
theorem L_call20 (args : List Value) (A : AMem) : LL.call 20 args A = enterF LL a20 args A := L_fn (by kernel_rfl) args A
theorem L_call21 (args : List Value) (A : AMem) : LL.call 21 args A = enterF LL a21 args A := L_fn (by kernel_rfl) args A
theorem L_call22 (args : List Value) (A : AMem) : LL.call 22 args A = enterF LL a22 args A := L_fn (by kernel_rfl) args A
theorem L_call23 (args : List Value) (A : AMem) : LL.call 23 args A = enterF LL a23 args A := L_fn (by kernel_rfl) args A
theorem L_call24 (args : List Value) (A : AMem) : LL.call 24 args A = enterF LL a24 args A := L_fn (by kernel_rfl) args A
theorem L_call25 (args : List Value) (A : AMem) : LL.call 25 args A = enterF LL a25 args A := L_fn (by kernel_rfl) args A
theorem L_call26 (args : List Value) (A : AMem) : LL.call 26 args A = enterF LL a26 args A := L_fn (by kernel_rfl) args A
theorem L_call27 (args : List Value) (A : AMem) : LL.call 27 args A = enterF LL a27 args A := L_fn (by kernel_rfl) args A
theorem L_call28 (args : List Value) (A : AMem) : LL.call 28 args A = enterF LL a28 args A := L_fn (by kernel_rfl) args A
theorem L_call29 (args : List Value) (A : AMem) : LL.call 29 args A = enterF LL a29 args A := L_fn (by kernel_rfl) args A
theorem L_call30 (args : List Value) (A : AMem) : LL.call 30 args A = enterF LL a30 args A := L_fn (by kernel_rfl) args A
theorem L_call31 (args : List Value) (A : AMem) : LL.call 31 args A = enterF LL a31 args A := L_fn (by kernel_rfl) args A
theorem L_call32 (args : List Value) (A : AMem) : LL.call 32 args A = enterF LL a32 args A := L_fn (by kernel_rfl) args A
theorem L_call33 (args : List Value) (A : AMem) : LL.call 33 args A = enterF LL a33 args A := L_fn (by kernel_rfl) args A
theorem L_call34 (args : List Value) (A : AMem) : LL.call 34 args A = enterF LL a34 args A := L_fn (by kernel_rfl) args A
theorem L_call35 (args : List Value) (A : AMem) : LL.call 35 args A = enterF LL a35 args A := L_fn (by kernel_rfl) args A
theorem L_call36 (args : List Value) (A : AMem) : LL.call 36 args A = enterF LL a36 args A := L_fn (by kernel_rfl) args A
theorem L_call37 (args : List Value) (A : AMem) : LL.call 37 args A = enterF LL a37 args A := L_fn (by kernel_rfl) args A
theorem L_call38 (args : List Value) (A : AMem) : LL.call 38 args A = enterF LL a38 args A := L_fn (by kernel_rfl) args A
theorem L_call39 (args : List Value) (A : AMem) : LL.call 39 args A = enterF LL a39 args A := L_fn (by kernel_rfl) args A
theorem L_call40 (args : List Value) (A : AMem) : LL.call 40 args A = enterF LL a40 args A := L_fn (by kernel_rfl) args A
theorem L_call41 (args : List Value) (A : AMem) : LL.call 41 args A = enterF LL a41 args A := L_fn (by kernel_rfl) args A
theorem L_call42 (args : List Value) (A : AMem) : LL.call 42 args A = enterF LL a42 args A := L_fn (by kernel_rfl) args A
theorem L_call43 (args : List Value) (A : AMem) : LL.call 43 args A = enterF LL a43 args A := L_fn (by kernel_rfl) args A
theorem L_call44 (args : List Value) (A : AMem) : LL.call 44 args A = enterF LL a44 args A := L_fn (by kernel_rfl) args A
theorem L_call45 (args : List Value) (A : AMem) : LL.call 45 args A = enterF LL a45 args A := L_fn (by kernel_rfl) args A
theorem L_call46 (args : List Value) (A : AMem) : LL.call 46 args A = enterF LL a46 args A := L_fn (by kernel_rfl) args A
theorem L_call47 (args : List Value) (A : AMem) : LL.call 47 args A = enterF LL a47 args A := L_fn (by kernel_rfl) args A
theorem L_call48 (args : List Value) (A : AMem) : LL.call 48 args A = enterF LL a48 args A := L_fn (by kernel_rfl) args A
theorem L_call49 (args : List Value) (A : AMem) : LL.call 49 args A = enterF LL a49 args A := L_fn (by kernel_rfl) args A
theorem L_call50 (args : List Value) (A : AMem) : LL.call 50 args A = enterF LL a50 args A := L_fn (by kernel_rfl) args A
theorem L_call51 (args : List Value) (A : AMem) : LL.call 51 args A = enterF LL a51 args A := L_fn (by kernel_rfl) args A
theorem L_call52 (args : List Value) (A : AMem) : LL.call 52 args A = enterF LL a52 args A := L_fn (by kernel_rfl) args A
theorem L_call53 (args : List Value) (A : AMem) : LL.call 53 args A = enterF LL a53 args A := L_fn (by kernel_rfl) args A
theorem L_call54 (args : List Value) (A : AMem) : LL.call 54 args A = enterF LL a54 args A := L_fn (by kernel_rfl) args A
theorem L_call55 (args : List Value) (A : AMem) : LL.call 55 args A = enterF LL a55 args A := L_fn (by kernel_rfl) args A
theorem L_call56 (args : List Value) (A : AMem) : LL.call 56 args A = enterF LL a56 args A := L_fn (by kernel_rfl) args A
theorem L_call57 (args : List Value) (A : AMem) : LL.call 57 args A = enterF LL a57 args A := L_fn (by kernel_rfl) args A
theorem L_call58 (args : List Value) (A : AMem) : LL.call 58 args A = enterF LL a58 args A := L_fn (by kernel_rfl) args A
theorem ok3 : OkFun Try.prog 3 a3 := ⟨Try.f3, Try.f3.body.getD .skip, Try.func3, by kernel_rfl, by kernel_rfl, by kernel_rfl, by kernel_rfl, by kernel_rfl⟩
theorem ok4 : OkFun Try.prog 4 a4 := ⟨Try.f4, Try.f4.body.getD .skip, Try.func4, by kernel_rfl, by kernel_rfl, by kernel_rfl, by kernel_rfl, by kernel_rfl⟩
theorem ok5 : OkFun Try.prog 5 a5 := ⟨Try.f5, Try.f5.body.getD .skip, Try.func5, by kernel_rfl, by kernel_rfl, by kernel_rfl, by kernel_rfl, by kernel_rfl⟩
theorem ok6 : OkFun Try.prog 6 a6 := ⟨Try.f6, Try.f6.body.getD .skip, Try.func6, by kernel_rfl, by kernel_rfl, by kernel_rfl, by kernel_rfl, by kernel_rfl⟩
theorem ok7 : OkFun Try.prog 7 a7 := ⟨Try.f7, Try.f7.body.getD .skip, Try.func7, by kernel_rfl, by kernel_rfl, by kernel_rfl, by kernel_rfl, by kernel_rfl⟩
theorem ok8 : OkFun Try.prog 8 a8 := ⟨Try.f8, Try.f8.body.getD .skip, Try.func8, by kernel_rfl, by kernel_rfl, by kernel_rfl, by kernel_rfl, by kernel_rfl⟩
theorem ok9 : OkFun Try.prog 9 a9 := ⟨Try.f9, Try.f9.body.getD .skip, Try.func9, by kernel_rfl, by kernel_rfl, by kernel_rfl, by kernel_rfl, by kernel_rfl⟩
theorem ok10 : OkFun Try.prog 10 a10 := ⟨Try.f10, Try.f10.body.getD .skip, Try.func10, by kernel_rfl, by kernel_rfl, by kernel_rfl, by kernel_rfl, by kernel_rfl⟩
theorem ok11 : OkFun Try.prog 11 a11 := ⟨Try.f11, Try.f11.body.getD .skip, Try.func11, by kernel_rfl, by kernel_rfl, by kernel_rfl, by kernel_rfl, by kernel_rfl⟩
theorem ok12 : OkFun Try.prog 12 a12 := ⟨Try.f12, Try.f12.body.getD .skip, Try.func12, by kernel_rfl, by kernel_rfl, by kernel_rfl, by kernel_rfl, by kernel_rfl⟩
theorem ok13 : OkFun Try.prog 13 a13 := ⟨Try.f13, Try.f13.body.getD .skip, Try.func13, by kernel_rfl, by kernel_rfl, by kernel_rfl, by kernel_rfl, by kernel_rfl⟩
theorem ok14 : OkFun Try.prog 14 a14 := ⟨Try.f14, Try.f14.body.getD .skip, Try.func14, by kernel_rfl, by kernel_rfl, by kernel_rfl, by kernel_rfl, by kernel_rfl⟩
theorem ok15 : OkFun Try.prog 15 a15 := ⟨Try.f15, Try.f15.body.getD .skip, Try.func15, by kernel_rfl, by kernel_rfl, by kernel_rfl, by kernel_rfl, by kernel_rfl⟩
theorem ok16 : OkFun Try.prog 16 a16 := ⟨Try.f16, Try.f16.body.getD .skip, Try.func16, by kernel_rfl, by kernel_rfl, by kernel_rfl, by kernel_rfl, by kernel_rfl⟩
theorem ok17 : OkFun Try.prog 17 a17 := ⟨Try.f17, Try.f17.body.getD .skip, Try.func17, by kernel_rfl, by kernel_rfl, by kernel_rfl, by kernel_rfl, by kernel_rfl⟩
theorem ok18 : OkFun Try.prog 18 a18 := ⟨Try.f18, Try.f18.body.getD .skip, Try.func18, by kernel_rfl, by kernel_rfl, by kernel_rfl, by kernel_rfl, by kernel_rfl⟩
theorem ok19 : OkFun Try.prog 19 a19 := ⟨Try.f19, Try.f19.body.getD .skip, Try.func19, by kernel_rfl, by kernel_rfl, by kernel_rfl, by kernel_rfl, by kernel_rfl⟩
theorem ok20 : OkFun Try.prog 20 a20 := ⟨Try.f20, Try.f20.body.getD .skip, Try.func20, by kernel_rfl, by kernel_rfl, by kernel_rfl, by kernel_rfl, by kernel_rfl⟩
theorem ok21 : OkFun Try.prog 21 a21 := ⟨Try.f21, Try.f21.body.getD .skip, Try.func21, by kernel_rfl, by kernel_rfl, by kernel_rfl, by kernel_rfl, by kernel_rfl⟩
theorem ok22 : OkFun Try.prog 22 a22 := ⟨Try.f22, Try.f22.body.getD .skip, Try.func22, by kernel_rfl, by kernel_rfl, by kernel_rfl, by kernel_rfl, by kernel_rfl⟩
theorem ok23 : OkFun Try.prog 23 a23 := ⟨Try.f23, Try.f23.body.getD .skip, Try.func23, by kernel_rfl, by kernel_rfl, by kernel_rfl, by kernel_rfl, by kernel_rfl⟩
theorem ok24 : OkFun Try.prog 24 a24 := ⟨Try.f24, Try.f24.body.getD .skip, Try.func24, by kernel_rfl, by kernel_rfl, by kernel_rfl, by kernel_rfl, by kernel_rfl⟩
theorem ok25 : OkFun Try.prog 25 a25 := ⟨Try.f25, Try.f25.body.getD .skip, Try.func25, by kernel_rfl, by kernel_rfl, by kernel_rfl, by kernel_rfl, by kernel_rfl⟩
theorem ok26 : OkFun Try.prog 26 a26 := ⟨Try.f26, Try.f26.body.getD .skip, Try.func26, by kernel_rfl, by kernel_rfl, by kernel_rfl, by kernel_rfl, by kernel_rfl⟩
theorem ok27 : OkFun Try.prog 27 a27 := ⟨Try.f27, Try.f27.body.getD .skip, Try.func27, by kernel_rfl, by kernel_rfl, by kernel_rfl, by kernel_rfl, by kernel_rfl⟩
theorem ok28 : OkFun Try.prog 28 a28 := ⟨Try.f28, Try.f28.body.getD .skip, Try.func28, by kernel_rfl, by kernel_rfl, by kernel_rfl, by kernel_rfl, by kernel_rfl⟩
theorem ok29 : OkFun Try.prog 29 a29 := ⟨Try.f29, Try.f29.body.getD .skip, Try.func29, by kernel_rfl, by kernel_rfl, by kernel_rfl, by kernel_rfl, by kernel_rfl⟩
theorem ok30 : OkFun Try.prog 30 a30 := ⟨Try.f30, Try.f30.body.getD .skip, Try.func30, by kernel_rfl, by kernel_rfl, by kernel_rfl, by kernel_rfl, by kernel_rfl⟩
theorem ok31 : OkFun Try.prog 31 a31 := ⟨Try.f31, Try.f31.body.getD .skip, Try.func31, by kernel_rfl, by kernel_rfl, by kernel_rfl, by kernel_rfl, by kernel_rfl⟩
theorem ok32 : OkFun Try.prog 32 a32 := ⟨Try.f32, Try.f32.body.getD .skip, Try.func32, by kernel_rfl, by kernel_rfl, by kernel_rfl, by kernel_rfl, by kernel_rfl⟩
theorem ok33 : OkFun Try.prog 33 a33 := ⟨Try.f33, Try.f33.body.getD .skip, Try.func33, by kernel_rfl, by kernel_rfl, by kernel_rfl, by kernel_rfl, by kernel_rfl⟩
theorem ok34 : OkFun Try.prog 34 a34 := ⟨Try.f34, Try.f34.body.getD .skip, Try.func34, by kernel_rfl, by kernel_rfl, by kernel_rfl, by kernel_rfl, by kernel_rfl⟩
theorem ok35 : OkFun Try.prog 35 a35 := ⟨Try.f35, Try.f35.body.getD .skip, Try.func35, by kernel_rfl, by kernel_rfl, by kernel_rfl, by kernel_rfl, by kernel_rfl⟩
theorem ok36 : OkFun Try.prog 36 a36 := ⟨Try.f36, Try.f36.body.getD .skip, Try.func36, by kernel_rfl, by kernel_rfl, by kernel_rfl, by kernel_rfl, by kernel_rfl⟩
theorem ok37 : OkFun Try.prog 37 a37 := ⟨Try.f37, Try.f37.body.getD .skip, Try.func37, by kernel_rfl, by kernel_rfl, by kernel_rfl, by kernel_rfl, by kernel_rfl⟩
theorem ok38 : OkFun Try.prog 38 a38 := ⟨Try.f38, Try.f38.body.getD .skip, Try.func38, by kernel_rfl, by kernel_rfl, by kernel_rfl, by kernel_rfl, by kernel_rfl⟩
theorem ok39 : OkFun Try.prog 39 a39 := ⟨Try.f39, Try.f39.body.getD .skip, Try.func39, by kernel_rfl, by kernel_rfl, by kernel_rfl, by kernel_rfl, by kernel_rfl⟩
theorem ok40 : OkFun Try.prog 40 a40 := ⟨Try.f40, Try.f40.body.getD .skip, Try.func40, by kernel_rfl, by kernel_rfl, by kernel_rfl, by kernel_rfl, by kernel_rfl⟩
theorem ok41 : OkFun Try.prog 41 a41 := ⟨Try.f41, Try.f41.body.getD .skip, Try.func41, by kernel_rfl, by kernel_rfl, by kernel_rfl, by kernel_rfl, by kernel_rfl⟩
theorem ok42 : OkFun Try.prog 42 a42 := ⟨Try.f42, Try.f42.body.getD .skip, Try.func42, by kernel_rfl, by kernel_rfl, by kernel_rfl, by kernel_rfl, by kernel_rfl⟩
theorem ok43 : OkFun Try.prog 43 a43 := ⟨Try.f43, Try.f43.body.getD .skip, Try.func43, by kernel_rfl, by kernel_rfl, by kernel_rfl, by kernel_rfl, by kernel_rfl⟩
theorem ok44 : OkFun Try.prog 44 a44 := ⟨Try.f44, Try.f44.body.getD .skip, Try.func44, by kernel_rfl, by kernel_rfl, by kernel_rfl, by kernel_rfl, by kernel_rfl⟩
theorem ok45 : OkFun Try.prog 45 a45 := ⟨Try.f45, Try.f45.body.getD .skip, Try.func45, by kernel_rfl, by kernel_rfl, by kernel_rfl, by kernel_rfl, by kernel_rfl⟩
theorem ok46 : OkFun Try.prog 46 a46 := ⟨Try.f46, Try.f46.body.getD .skip, Try.func46, by kernel_rfl, by kernel_rfl, by kernel_rfl, by kernel_rfl, by kernel_rfl⟩
theorem ok47 : OkFun Try.prog 47 a47 := ⟨Try.f47, Try.f47.body.getD .skip, Try.func47, by kernel_rfl, by kernel_rfl, by kernel_rfl, by kernel_rfl, by kernel_rfl⟩
theorem ok48 : OkFun Try.prog 48 a48 := ⟨Try.f48, Try.f48.body.getD .skip, Try.func48, by kernel_rfl, by kernel_rfl, by kernel_rfl, by kernel_rfl, by kernel_rfl⟩
theorem ok49 : OkFun Try.prog 49 a49 := ⟨Try.f49, Try.f49.body.getD .skip, Try.func49, by kernel_rfl, by kernel_rfl, by kernel_rfl, by kernel_rfl, by kernel_rfl⟩
theorem ok50 : OkFun Try.prog 50 a50 := ⟨Try.f50, Try.f50.body.getD .skip, Try.func50, by kernel_rfl, by kernel_rfl, by kernel_rfl, by kernel_rfl, by kernel_rfl⟩
theorem ok51 : OkFun Try.prog 51 a51 := ⟨Try.f51, Try.f51.body.getD .skip, Try.func51, by kernel_rfl, by kernel_rfl, by kernel_rfl, by kernel_rfl, by kernel_rfl⟩
theorem ok52 : OkFun Try.prog 52 a52 := ⟨Try.f52, Try.f52.body.getD .skip, Try.func52, by kernel_rfl, by kernel_rfl, by kernel_rfl, by kernel_rfl, by kernel_rfl⟩
theorem ok53 : OkFun Try.prog 53 a53 := ⟨Try.f53, Try.f53.body.getD .skip, Try.func53, by kernel_rfl, by kernel_rfl, by kernel_rfl, by kernel_rfl, by kernel_rfl⟩
theorem ok54 : OkFun Try.prog 54 a54 := ⟨Try.f54, Try.f54.body.getD .skip, Try.func54, by kernel_rfl, by kernel_rfl, by kernel_rfl, by kernel_rfl, by kernel_rfl⟩
theorem ok55 : OkFun Try.prog 55 a55 := ⟨Try.f55, Try.f55.body.getD .skip, Try.func55, by kernel_rfl, by kernel_rfl, by kernel_rfl, by kernel_rfl, by kernel_rfl⟩
theorem ok56 : OkFun Try.prog 56 a56 := ⟨Try.f56, Try.f56.body.getD .skip, Try.func56, by kernel_rfl, by kernel_rfl, by kernel_rfl, by kernel_rfl, by kernel_rfl⟩
theorem ok57 : OkFun Try.prog 57 a57 := ⟨Try.f57, Try.f57.body.getD .skip, Try.func57, by kernel_rfl, by kernel_rfl, by kernel_rfl, by kernel_rfl, by kernel_rfl⟩
theorem ok58 : OkFun Try.prog 58 a58 := ⟨Try.f58, Try.f58.body.getD .skip, Try.func58, by kernel_rfl, by kernel_rfl, by kernel_rfl, by kernel_rfl, by kernel_rfl⟩
theorem envAll : ∀ p ∈ envL, OkFun Try.prog p.1 p.2 := List.forall_mem_cons.2 ⟨ok3, List.forall_mem_cons.2 ⟨ok4, List.forall_mem_cons.2 ⟨ok5, List.forall_mem_cons.2 ⟨ok6, List.forall_mem_cons.2 ⟨ok7, List.forall_mem_cons.2 ⟨ok8, List.forall_mem_cons.2 ⟨ok9, List.forall_mem_cons.2 ⟨ok10, List.forall_mem_cons.2 ⟨ok11, List.forall_mem_cons.2 ⟨ok12, List.forall_mem_cons.2 ⟨ok13, List.forall_mem_cons.2 ⟨ok14, List.forall_mem_cons.2 ⟨ok15, List.forall_mem_cons.2 ⟨ok16, List.forall_mem_cons.2 ⟨ok17, List.forall_mem_cons.2 ⟨ok18, List.forall_mem_cons.2 ⟨ok19, List.forall_mem_cons.2 ⟨ok20, List.forall_mem_cons.2 ⟨ok21, List.forall_mem_cons.2 ⟨ok22, List.forall_mem_cons.2 ⟨ok23, List.forall_mem_cons.2 ⟨ok24, List.forall_mem_cons.2 ⟨ok25, List.forall_mem_cons.2 ⟨ok26, List.forall_mem_cons.2 ⟨ok27, List.forall_mem_cons.2 ⟨ok28, List.forall_mem_cons.2 ⟨ok29, List.forall_mem_cons.2 ⟨ok30, List.forall_mem_cons.2 ⟨ok31, List.forall_mem_cons.2 ⟨ok32, List.forall_mem_cons.2 ⟨ok33, List.forall_mem_cons.2 ⟨ok34, List.forall_mem_cons.2 ⟨ok35, List.forall_mem_cons.2 ⟨ok36, List.forall_mem_cons.2 ⟨ok37, List.forall_mem_cons.2 ⟨ok38, List.forall_mem_cons.2 ⟨ok39, List.forall_mem_cons.2 ⟨ok40, List.forall_mem_cons.2 ⟨ok41, List.forall_mem_cons.2 ⟨ok42, List.forall_mem_cons.2 ⟨ok43, List.forall_mem_cons.2 ⟨ok44, List.forall_mem_cons.2 ⟨ok45, List.forall_mem_cons.2 ⟨ok46, List.forall_mem_cons.2 ⟨ok47, List.forall_mem_cons.2 ⟨ok48, List.forall_mem_cons.2 ⟨ok49, List.forall_mem_cons.2 ⟨ok50, List.forall_mem_cons.2 ⟨ok51, List.forall_mem_cons.2 ⟨ok52, List.forall_mem_cons.2 ⟨ok53, List.forall_mem_cons.2 ⟨ok54, List.forall_mem_cons.2 ⟨ok55, List.forall_mem_cons.2 ⟨ok56, List.forall_mem_cons.2 ⟨ok57, List.forall_mem_cons.2 ⟨ok58, fun p hp => nomatch hp⟩⟩⟩⟩⟩⟩⟩⟩⟩⟩⟩⟩⟩⟩⟩⟩⟩⟩⟩⟩⟩⟩⟩⟩⟩⟩⟩⟩⟩⟩⟩⟩⟩⟩⟩⟩⟩⟩⟩⟩⟩⟩⟩⟩⟩⟩⟩⟩⟩⟩⟩⟩⟩⟩⟩⟩
theorem envOk : EnvOk Try.prog env := ⟨fun g a _ h => envAll _ (lookup_mem h), fun g h e => (by cases e), fun g h e => (by cases e)⟩
end Go.Proofs.Ytaepdefnomcllaa
